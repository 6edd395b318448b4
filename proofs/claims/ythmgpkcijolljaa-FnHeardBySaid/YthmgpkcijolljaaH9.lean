/-
  Rules for a goroutine's own walk, whatever is asked of it in the end: moves of control, plain operations, calls, pieces lifted from lone walks.
-/
import Derived.Test.YthmgpkcijolljaaH8
import Derived.Test.YthmgpkcijolljaaHKLift7
import Derived.Conc.Own5
import Derived.Conc.DeferLaws
import Derived.Conc.LoneCalls
namespace Go.Proofs.Ythmgpkcijolljaa
open Go.Conc
open Go.ConcN (upd upd_same upd_ne)
set_option linter.unusedSimpArgs false
set_option linter.unusedVariables false
/-- Whatever the tape. -/
def KA (K : Goroutine → World → Prop) (g : Goroutine) (v : World) : Prop := ∀ t d, K g (v.re t d)
/-- What a stretch of the goroutine's own leaves alone: what nobody may write. -/
structure Keeps (v v' : World) : Prop where
 size : v.heap.size ≤ v'.heap.size
 shut : ∀ b, Shut v b → v'.heap[b]? = v.heap[b]?
theorem Keeps.shut_of {v v' : World} (h : Keeps v v') {b : Nat} (hs : Shut v b) : Shut v' b := by
 rcases id hs with h1 | ⟨c, e, f, h1, h2⟩
 ·exact .inl ((h.shut b hs).trans h1)
 ·exact .inr ⟨c, e, f, (h.shut b hs).trans h1, h2⟩
theorem Keeps.trans {v v' v'' : World} (h : Keeps v v') (k : Keeps v' v'') : Keeps v v'' :=
 ⟨Nat.le_trans h.size k.size, fun b hs => (k.shut b (h.shut_of hs)).trans (h.shut b hs)⟩
theorem Keeps.refl (v : World) : Keeps v v := ⟨Nat.le_refl _, fun _ _ => rfl⟩
theorem Keeps.hid {v v' : World} (h : Keeps v v') {b : Nat} (hb : v.heap[b]? = some hid) : v'.heap[b]? = some hid := (h.shut b (.inl hb)).trans hb
section
variable {P : Program} {S : List FuncId} {main gr st : Bool} {Live : World → Prop} {K : Goroutine → World → Prop} {v : World} {g g' : Goroutine}
theorem KA.out (h : KA K g v) : K g v := h v.tape v.drawn
theorem KA.re {t : Nat → Question → Nat} {d : Nat} (h : KA K g v) : KA K g (v.re t d) := fun t' d' => h t' d'
theorem KA.of_re {t : Nat → Question → Nat} {d : Nat} (h : KA K g (v.re t d)) : KA K g v := fun t' d' => h t' d'
theorem KA.mono {K' : Goroutine → World → Prop} (h : KA K g v) (hm : ∀ v, K g v → K' g v) : KA K' g v := fun t d => hm _ (h t d)
theorem kstep (hK : KOk P main gr st Live K) (hF : Flat P v) (hr : g.status = .running) (hs : ∀ w, stepG P main g w = .go g' w #[]) (h : KA K g' v) : KA K g v := by
 intro t d
 refine hK.step g (v.re t d) hr fun w hV hz hL => ?_
 have hVu := (hV.upto (n := w.heap.size) (Nat.le_refl _)).re w.tape w.drawn
 have hle : v.heap.size ≤ w.heap.size := hV.size
 have hsz : w.heap.size = ((((v.re t d).upto w.heap.size).re w.tape w.drawn)).heap.size := by
  show w.heap.size = (v.upto w.heap.size).heap.size
  rw [upto_size]; omega
 refine ⟨g', ((v.re t d).upto w.heap.size).re w.tape w.drawn, w, #[], hs w, .refl hVu hsz rfl rfl, by simp, fun _ => rfl, ?_⟩
 show K g' ((v.re w.tape w.drawn).upto w.heap.size)
 cases gr with
 | true => exact hK.more rfl g' _ _ (re_flat hF) (h _ _)
 | false =>
  have e : w.heap.size = v.heap.size := hz rfl
  rw [upto_le (v := v.re w.tape w.drawn) (by show w.heap.size ≤ v.heap.size; omega)]
  exact h _ _
section
variable {b : Frame} {a : Act} {k : List Item} {cs : List Frame}
theorem kSkip (hK : KOk P main gr st Live K) (hF : Flat P v) (h : KA K (G (b.at a k) cs) v) : KA K (G (b.at a (.code .skip :: k)) cs) v := kstep hK hF rfl (fun _ => stepG_skip) h
theorem kInBlock (hK : KOk P main gr st Live K) (hF : Flat P v) {id : Nat} (h : KA K (G (b.at a k) cs) v) : KA K (G (b.at a (.inBlock id :: k)) cs) v := kstep hK hF rfl (fun _ => stepG_inBlock) h
theorem kSeq (hK : KOk P main gr st Live K) (hF : Flat P v) {x y : Code} (h : KA K (G (b.at a (.code x :: .code y :: k)) cs) v) : KA K (G (b.at a (.code (.seq x y) :: k)) cs) v := kstep hK hF rfl (fun _ => stepG_seq) h
theorem kBlock (hK : KOk P main gr st Live K) (hF : Flat P v) {id : Nat} {c : Code} (h : KA K (G (b.at a (.code c :: .inBlock id :: k)) cs) v) : KA K (G (b.at a (.code (.block id c) :: k)) cs) v := kstep hK hF rfl (fun _ => stepG_block) h
theorem kLoop (hK : KOk P main gr st Live K) (hF : Flat P v) {c : Code} (h : KA K (G (b.at a (.code c :: .inLoop c :: k)) cs) v) : KA K (G (b.at a (.code (.loop c) :: k)) cs) v := kstep hK hF rfl (fun _ => stepG_loop) h
theorem kInLoop (hK : KOk P main gr st Live K) (hF : Flat P v) {c : Code} (h : KA K (G (b.at a (.code c :: .inLoop c :: k)) cs) v) : KA K (G (b.at a (.inLoop c :: k)) cs) v := kstep hK hF rfl (fun _ => stepG_inLoop) h
theorem kCond (hK : KOk P main gr st Live K) (hF : Flat P v) {c : Operand} {x y : Code} {t : Bool} (e : a.eval c = .bool t) (h : KA K (G (b.at a (.code (if t then x else y) :: k)) cs) v) : KA K (G (b.at a (.code (.cond c x y) :: k)) cs) v := kstep hK hF rfl (fun _ => stepG_cond e) h
theorem kExit (hK : KOk P main gr st Live K) (hF : Flat P v) {id : Nat} {k' : List Item} (e : exitTo id k = some k') (h : KA K (G (b.at a k') cs) v) : KA K (G (b.at a (.code (.exit id) :: k)) cs) v := kstep hK hF rfl (fun _ => stepG_exit e) h
theorem kRegion (hK : KOk P main gr st Live K) (hF : Flat P v) {id : Nat} {ops : Array Oper} (h : KA K (G (b.at a (.inRegion ops (List.range ops.size) :: k)) cs) v) : KA K (G (b.at a (.code (.region id ops false) :: k)) cs) v := kstep hK hF rfl (fun _ => stepG_region) h
theorem kRegEnd (hK : KOk P main gr st Live K) (hF : Flat P v) {ops : Array Oper} (h : KA K (G (b.at a k) cs) v) : KA K (G (b.at a (.inRegion ops [] :: k)) cs) v := kstep hK hF rfl (fun _ => stepG_region_end) h
theorem kEnd (hK : KOk P main gr st Live K) (hF : Flat P v) (h : KA K (G { b.at a [] with mode := .returning } cs) v) : KA K (G (b.at a []) cs) v := kstep hK hF rfl (fun _ => stepG_end) h
theorem kRet (hK : KOk P main gr st Live K) (hF : Flat P v) (h : KA K (G { b.at a (.code .ret :: k) with mode := .returning } cs) v) : KA K (G (b.at a (.code .ret :: k)) cs) v := kstep hK hF rfl (fun _ => stepG_ret') h
/-- A plain operation that leaves its world as it is. -/
theorem kOp (hS : Bodies P S) (hK : KOk P main gr st Live K) (hF : Flat P v) {ops : Array Oper} {i : Nat} {rest : List Nat} {o : Oper} {tmps : Array Value} {d : List Deferred} (hk : b.kind ≠ .early) (ho : ops[i]? = some o) (hw : Region.wanted o (yielded ops tmps) = true) (hok : opOk P S o = true) {val : Value}
  (he : ∀ v₁ : World, (∀ (b : Nat) (o : Obj), v.heap[b]? = some o → v₁.heap[b]? = some o) → (execOp (Act.mk tmps []).eval o).run P v₁ = .ok (.value val) v₁)
  (h : KA K (G (b.at ((Act.mk tmps d).put o.dst val) (.inRegion ops rest :: k)) cs) v) : KA K (G (b.at ⟨tmps, d⟩ (.inRegion ops (i :: rest) :: k)) cs) v := by
 intro t e
 refine hK.step _ (v.re t e) rfl fun w hV hz hL => ?_
 have hVu := (hV.upto (n := w.heap.size) (Nat.le_refl _)).re w.tape w.drawn
 have hle : v.heap.size ≤ w.heap.size := hV.size
 have hsz : w.heap.size = ((((v.re t e).upto w.heap.size).re w.tape w.drawn)).heap.size := by
  show w.heap.size = (v.upto w.heap.size).heap.size
  rw [upto_size]; omega
 have hrun := he (((v.re t e).upto w.heap.size).re w.tape w.drawn) (fun b o hb => by
  show (v.upto w.heap.size).heap[b]? = some o
  rw [upto_get (Array.getElem?_eq_some_iff.1 hb).1]; exact hb)
 obtain ⟨_, w', es, f1, o1, _, hst⟩ := op_step (main := main) (d := d) (k := k) (cs := cs) hS hk (x := ⟨b.fn, tmps, [.inRegion ops (i :: rest)], true⟩) rfl rfl ho hw hok hVu hsz rfl rfl hrun
 refine ⟨_, _, w', es, by
  have e1 : stepG P main (G (b.at ⟨tmps, d⟩ (.inRegion ops (i :: rest) :: k)) cs) w = stepG P main (G (frm d k b.kind ⟨b.fn, tmps, [.inRegion ops (i :: rest)], true⟩) cs) w := rfl
  rw [e1, hst]
  simp only [GStep.after]
  rfl, f1, o1, fun _ => by rw [f1.size]; exact hsz.symm, ?_⟩
 have hfin : (frm d k b.kind ⟨b.fn, tmps, [.inRegion ops (i :: rest)], true⟩).finish val = b.at ((Act.mk tmps d).put o.dst val) (.inRegion ops rest :: k) := by
  show (b.at ⟨tmps, d⟩ (.inRegion ops (i :: rest) :: k)).finish val = _
  rw [Frame.finish_at, ho]; rfl
 rw [hfin]
 show K _ ((v.re w.tape w.drawn).upto w.heap.size)
 cases gr with
 | true => exact hK.more rfl _ _ _ (re_flat hF) (h _ _)
 | false =>
  have e : w.heap.size = v.heap.size := hz rfl
  rw [upto_le (v := v.re w.tape w.drawn) (by show w.heap.size ≤ v.heap.size; omega)]
  exact h _ _
/-- The call of a function by its name. -/
theorem kCall (hK : KOk P main gr st Live K) (hF : Flat P v) {ops : Array Oper} {i : Nat} {rest : List Nat} {o : Oper} {f : FuncId} {fn : Func} {c : Code} {args : Array Operand} {ats : Array TypeId}
  (ho : ops[i]? = some o) (hw : Region.wanted o (yielded ops a.tmps) = true) (hk : b.kind ≠ .early) (hop : o.op = .call { callee := .value (.func f), args, argTypes := ats })
  (hf : P.funcs[f]? = some fn) (hname : (fn.name == "runtime.NumGoroutine") = false) (hb : fn.body = some c)
  (h : KA K (G ((base f).at { tmps := args.map a.eval ++ Array.replicate (fn.ntmps - (args.map a.eval).size) undef, defers := [] } [.code c]) (b.at a (.inRegion ops (i :: rest) :: k) :: cs)) v) :
  KA K (G (b.at a (.inRegion ops (i :: rest) :: k)) cs) v := by
 have hb' : fn.body.isNone = false := by rw [hb]; rfl
 refine kstep hK hF rfl (fun w => ?_) h
 rw [stepG_enter ho hw hk (run_call_body hop hf hname hb'), enter_at _ hf hb]
 have : listed P b.fn a o w = #[] := by unfold listed; rw [events_call_body hop hf hname hb']; exact seen_none P _
 rw [this]
section
variable {fn : Func} {todo : List Item} {b₀ : Frame} {a₀ : Act} {ops : Array Oper} {i : Nat} {rest : List Nat}
theorem kLeave1 (hK : KOk P main gr st Live K) (hF : Flat P v) {t : Tmp} (hn : b.kind = .normal) (hd : a.defers = []) (hf : P.funcs[b.fn]? = some fn) (hr : fn.results = #[.tmp t])
  (h : KA K (G (b₀.at (a₀.put ((ops[i]?).bind (·.dst)) (a.tmps.getD t undef)) (.inRegion ops rest :: k)) cs) v) : KA K (G { b.at a todo with mode := .returning } (b₀.at a₀ (.inRegion ops (i :: rest) :: k) :: cs)) v :=
 kstep hK hF rfl (fun w => by rw [stepG_leave hn hd hf (results_tmp hr _ P w) (events_results_tmp hr _ _), Frame.finish_at]) h
theorem kLeave2 (hK : KOk P main gr st Live K) (hF : Flat P v) {t u : Tmp} (hn : b.kind = .normal) (hd : a.defers = []) (hf : P.funcs[b.fn]? = some fn) (hr : fn.results = #[.tmp t, .tmp u])
  (h : KA K (G (b₀.at (a₀.put ((ops[i]?).bind (·.dst)) (.tuple #[a.tmps.getD t undef, a.tmps.getD u undef])) (.inRegion ops rest :: k)) cs) v) : KA K (G { b.at a todo with mode := .returning } (b₀.at a₀ (.inRegion ops (i :: rest) :: k) :: cs)) v :=
 kstep hK hF rfl (fun w => by rw [stepG_leave hn hd hf (results_tmp2 hr _ P w) (events_results_tmp2 hr _ _), Frame.finish_at]) h
end
end
/-! ### Pieces walked alone -/
theorem ta_keep (hC : Closed P S) {F F' : Fa → World → Prop} {v₀ : World} (hF : ∀ x v, F x v → Flat P v → Keeps v₀ v → F' x v) {up : List Fa} {x : Fa} {v : World} (h : TA P F up x v) : CfgOk P S up x → Flat P v → Keeps v₀ v → TA P F' up x v := by
 induction h with
 | fin t d h => exact fun _ hf hk => .fin t d (hF _ _ h (re_flat hf) ⟨hk.size, hk.shut⟩)
 | @step up x v nx hs _ ih =>
  intro hok hfl hk
  refine .step nx hs fun t d => ?_
  obtain ⟨hok', _, w', es, f1, _, _, _⟩ := cstep_real (main := true) (B := BV) hC (by decide) hok (re_flat (t := t) (d := d) hfl).self rfl rfl rfl (hs t d)
  exact ih t d hok' f1.veil.flat (hk.trans ⟨f1.grow, fun b hb => (f1.shut b hb).1⟩)
section
variable {c : Code} {b : Frame} {d : List Deferred} {k : List Item} {cs : List Frame} {tmps : Array Value}
/-- ████ A piece walked alone, where no other allots. ████ -/
theorem kLift (hC : Closed P S) (hK : KOk P main false false Live K) (hF : Flat P v) (hc : codeOk P S c = true) (hb : b.kind ≠ .early)
  (h : ∀ t, c.wp P (Behind (fun g v' => Flat P v' → Keeps v v' → KA K g v') b d k cs) ⟨tmps, []⟩ (v.re t 0)) : KA K (G (b.at ⟨tmps, d⟩ (.code c :: k)) cs) v := by
 intro t e
 have hT := tree_of_wp hC hc hF h
 have hok : CfgOk P S [] ⟨b.fn, tmps, [.code c], true⟩ := ⟨fun y hy => by simp at hy, fun y hy => by simp at hy, fun i hi => by rw [List.mem_singleton.1 hi]; exact hc, fun hh => absurd rfl hh⟩
 have hT' := ta_keep hC (F' := fun x v => KA K (conc ⟨d, k, b.kind, cs⟩ [] x) v) (v₀ := v) (fun x v₁ hx hf hk => hx.1 hf hk) hT hok hF (.refl v)
 exact hK.re _ _ v.tape v.drawn (lift_tree (B := ⟨d, k, b.kind, cs⟩) hC hK rfl rfl hb (fun x v hx => hx.out) hT' hok hF)
/-- ████ .. where others may allot, and it does not. ████ -/
theorem kLiftS (hC : Closed P S) (hK : KOk P main true st Live K) (hF : Flat P v) (hc : codeOk P S c = true) (hb : b.kind ≠ .early)
  (h : ∀ t, c.wp P (Behind (fun g v' => v'.heap.size = v.heap.size ∧ (Flat P v' → Keeps v v' → KA K g v')) b d k cs) ⟨tmps, []⟩ (v.re t 0)) : KA K (G (b.at ⟨tmps, d⟩ (.code c :: k)) cs) v := by
 intro t e
 have hT := tree_of_wp hC hc hF h
 have hok : CfgOk P S [] ⟨b.fn, tmps, [.code c], true⟩ := ⟨fun y hy => by simp at hy, fun y hy => by simp at hy, fun i hi => by rw [List.mem_singleton.1 hi]; exact hc, fun hh => absurd rfl hh⟩
 have hT' := ta_keep hC (F' := fun x v' => v'.heap.size = v.heap.size ∧ KA K (conc ⟨d, k, b.kind, cs⟩ [] x) v') (v₀ := v) (fun x v₁ hx hf hk => ⟨hx.1.1, hx.1.2 hf hk⟩) hT hok hF (.refl v)
 exact hK.re _ _ v.tape v.drawn (lift_tree_still (B := ⟨d, k, b.kind, cs⟩) hC hK rfl hb (s := v.heap.size) (fun x v hx => ⟨hx.1, hx.2.out⟩) hT' hok hF rfl)
end
/-- The call of a function of simple make, whose lone walk is proved. -/
theorem kCallW (hC : Closed P S) (hK : KOk P main false false Live K) (hF : Flat P v) {b : Frame} {a : Act} {k : List Item} {cs : List Frame} {ops : Array Oper} {i : Nat} {rest : List Nat} {o : Oper} {f : FuncId} {fn : Func} {c : Code} {args : Array Operand} {ats : Array TypeId} {r : Tmp}
  (ho : ops[i]? = some o) (hw : Region.wanted o (yielded ops a.tmps) = true) (hk : b.kind ≠ .early) (hop : o.op = .call { callee := .value (.func f), args, argTypes := ats })
  (hf : P.funcs[f]? = some fn) (hname : (fn.name == "runtime.NumGoroutine") = false) (hb : fn.body = some c) (hc : codeOk P S c = true) (hr : fn.results = #[.tmp r]) {xs : Array Value} (hxs : args.map a.eval = xs)
  (h : ∀ t, c.wp P (bodyPost P fn (fun e w' => ∃ x, e = .returned x ∧ (Flat P w' → Keeps v w' → KA K (G (b.at (a.put o.dst x) (.inRegion ops rest :: k)) cs) w'))) { tmps := xs ++ Array.replicate (fn.ntmps - xs.size) undef, defers := [] } (v.re t 0)) :
  KA K (G (b.at a (.inRegion ops (i :: rest) :: k)) cs) v := by
 subst hxs
 have hdst : (ops[i]?).bind (·.dst) = o.dst := by rw [ho]; rfl
 refine kCall hK hF ho hw hk hop hf hname hb (kLift hC hK hF hc (by intro e; cases e) fun t => Go.wp_mono (h t) fun e a' w' hq => ?_)
 have out : ∀ a' : Act, a'.defers = [] → ∀ v' : World, (∃ x, (results fn a'.tmps).run P v' = .ok x v' ∧ ∃ y, Ending.returned x = .returned y ∧ (Flat P v' → Keeps v v' → KA K (G (b.at (a.put o.dst y) (.inRegion ops rest :: k)) cs) v')) → Flat P v' → Keeps v v' →
   ∀ todo, KA K (G { (base f).at ⟨a'.tmps, []⟩ todo with mode := .returning } (b.at a (.inRegion ops (i :: rest) :: k) :: cs)) v' := by
  intro a' hd v' ⟨x, hx, y, hy, hq⟩ hfl hkp todo
  obtain rfl := Ending.returned.inj hy
  rw [results_tmp hr] at hx
  simp only [Result.ok.injEq, and_true] at hx
  refine kLeave1 hK hfl (t := r) rfl rfl hf hr ?_
  rw [hdst]
  have e : (Act.mk a'.tmps []).tmps.getD r undef = x := hx
  rw [e]
  exact hq hfl hkp
 cases e with
 | normal => exact fun hfl hkp => kEnd hK hfl (out a' hq.1 w' hq.2 hfl hkp [])
 | ret => exact fun todo hfl hkp => out a' hq.1 w' hq.2 hfl hkp todo
 | panic ch => obtain ⟨_, y, hy, _⟩ := hq; cases hy
 | outgrown => obtain ⟨y, hy, _⟩ := hq; cases hy
 | _ => exact hq.elim
theorem bodyPost_mono {P : Program} {fn : Func} {R R' : Ending → World → Prop} (h : ∀ e w, R e w → R' e w) : ∀ e a w, bodyPost P fn R e a w → bodyPost P fn R' e a w := by
 intro e a w hq
 cases e with
 | normal => exact ⟨hq.1, let ⟨v, h1, h2⟩ := hq.2; ⟨v, h1, h _ _ h2⟩⟩
 | ret => exact ⟨hq.1, let ⟨v, h1, h2⟩ := hq.2; ⟨v, h1, h _ _ h2⟩⟩
 | panic ch => exact ⟨hq.1, h _ _ hq.2⟩
 | outgrown => exact h _ _ hq
 | _ => exact hq.elim
theorem listed0 {b : Frame} {a : Act} {o : Oper} {w : World} (he : (execOp a.eval o).events P w #[] = #[]) : listed P b.fn a o w = #[] := by unfold listed; rw [he, seen_none]
/-- A communication of one case stands. -/
theorem comm_at {b : Frame} {a : Act} {k : List Item} {cs : List Frame} {ops : Array Oper} {i : Nat} {rest : List Nat} {o : Oper} {cc : Array CommCase} {sh : CommShape} (ho : ops[i]? = some o) (hw : Region.wanted o (yielded ops a.tmps) = true) (hk : b.kind ≠ .early)
  (hr : ∀ w, (execOp a.eval o).run P w = .ok (.comm cc true sh) w) (he : ∀ w, (execOp a.eval o).events P w #[] = #[]) :
  Comm P main (G (b.at a (.inRegion ops (i :: rest) :: k)) cs) (G (b.at a (.inRegion ops (i :: rest) :: k)) cs) cc sh :=
 ⟨rfl, rfl, fun w => by rw [stepG_comm ho hw hk (hr w), listed0 (he w)], fun w => by rw [stepG_comm ho hw hk (hr w), listed0 (he w)]⟩
theorem after_at {b : Frame} {a : Act} {k : List Item} {cs : List Frame} {ops : Array Oper} {i : Nat} {rest : List Nat} {o : Oper} {s : Say} {c : Nat} {z : Value} (ho : ops[i]? = some o) :
  (after P (G (b.at a (.inRegion ops (i :: rest) :: k)) cs) s c z .send = G (b.at (a.put o.dst undef) (.inRegion ops rest :: k)) cs) ∧
  (after P (G (b.at a (.inRegion ops (i :: rest) :: k)) cs) s c z (.recv true) = G (b.at (a.put o.dst (.tuple #[s.val z, .bool s.ok])) (.inRegion ops rest :: k)) cs) ∧
  (after P (G (b.at a (.inRegion ops (i :: rest) :: k)) cs) s c z (.recv false) = G (b.at (a.put o.dst (s.val z)) (.inRegion ops rest :: k)) cs) := by
 have fin : ∀ v, (b.at a (.inRegion ops (i :: rest) :: k)).finish v = b.at (a.put o.dst v) (.inRegion ops rest :: k) := fun v => by rw [Frame.finish_at, ho]; rfl
 refine ⟨?_, ?_, ?_⟩
 ·rw [← fin]; rfl
 ·rw [← fin]; rfl
 ·rw [← fin]; rfl
end
end Go.Proofs.Ythmgpkcijolljaa
/-
  A plain operation that may change its world, in a goroutine's own walk.
-/
namespace Go.Proofs.Ythmgpkcijolljaa
open Go.Conc
set_option linter.unusedSimpArgs false
set_option linter.unusedVariables false
section
variable {P : Program} {S : List FuncId} {main gr st : Bool} {Live : World → Prop} {K : Goroutine → World → Prop} {v : World} {b : Frame} {k : List Item} {cs : List Frame}
/-- A plain operation, whatever it does, with what it keeps. -/
theorem kOpX (hS : Bodies P S) (hK : KOk P main gr st Live K) (hF : Flat P v) {ops : Array Oper} {i : Nat} {rest : List Nat} {o : Oper} {tmps : Array Value} {d : List Deferred} (hk : b.kind ≠ .early) (ho : ops[i]? = some o) (hw : Region.wanted o (yielded ops tmps) = true) (hok : opOk P S o = true)
  (he : ∀ n, v.heap.size ≤ n → (gr = false → n = v.heap.size) → ∀ t e, ∃ nx val v', (nx = .value val ∨ (nx = .skip ∧ val = undef)) ∧ (execOp (Act.mk tmps []).eval o).run P ((v.upto n).re t e) = .ok nx v' ∧ (st = true → v'.heap.size = n) ∧ (Flat P v' → Keeps v v' → KA K (G (b.at ((Act.mk tmps d).put o.dst val) (.inRegion ops rest :: k)) cs) v')) :
  KA K (G (b.at ⟨tmps, d⟩ (.inRegion ops (i :: rest) :: k)) cs) v := by
 intro t e
 refine hK.step _ (v.re t e) rfl fun w hV hz hL => ?_
 have hVu := (hV.upto (n := w.heap.size) (Nat.le_refl _)).re w.tape w.drawn
 have hle : v.heap.size ≤ w.heap.size := hV.size
 have hsz : w.heap.size = ((((v.re t e).upto w.heap.size).re w.tape w.drawn)).heap.size := by
  show w.heap.size = (v.upto w.heap.size).heap.size
  rw [upto_size]; omega
 obtain ⟨nx, val, v', hnx, hrun, hs', hk'⟩ := he w.heap.size hle (fun h => hz h) w.tape w.drawn
 have hrun' : (execOp (Act.mk tmps []).eval o).run P (((v.re t e).upto w.heap.size).re w.tape w.drawn) = .ok nx v' := hrun
 obtain ⟨_, w', es, f1, o1, _, hst⟩ := op_step (main := main) (d := d) (k := k) (cs := cs) hS hk (x := ⟨b.fn, tmps, [.inRegion ops (i :: rest)], true⟩) rfl rfl ho hw hok hVu hsz rfl rfl hrun'
 have hfin : ∀ y, (frm d k b.kind ⟨b.fn, tmps, [.inRegion ops (i :: rest)], true⟩).finish y = b.at ((Act.mk tmps d).put o.dst y) (.inRegion ops rest :: k) := fun y => by
  show (b.at ⟨tmps, d⟩ (.inRegion ops (i :: rest) :: k)).finish y = _
  rw [Frame.finish_at, ho]; rfl
 have hkp : Keeps v v' := by
  refine ⟨Nat.le_trans hle (by have := f1.grow; rw [← hsz] at this; exact this), fun q hq => ?_⟩
  have hq' : q < v.heap.size := Shut.lt hq
  have e1 : (((v.re t e).upto w.heap.size).re w.tape w.drawn).heap[q]? = v.heap[q]? := upto_get (v := v) hq'
  have hsh : Shut (((v.re t e).upto w.heap.size).re w.tape w.drawn) q := by unfold Shut at hq ⊢; rw [e1]; exact hq
  rw [(f1.shut q hsh).1, e1]
 refine ⟨_, v', w', es, by
  have e1 : stepG P main (G (b.at ⟨tmps, d⟩ (.inRegion ops (i :: rest) :: k)) cs) w = stepG P main (G (frm d k b.kind ⟨b.fn, tmps, [.inRegion ops (i :: rest)], true⟩) cs) w := rfl
  have e2 : stepG P main (G (frm d k b.kind ⟨b.fn, tmps, [.inRegion ops (i :: rest)], true⟩) cs) w = .go (G ((frm d k b.kind ⟨b.fn, tmps, [.inRegion ops (i :: rest)], true⟩).finish val) cs) w' es := by
   rw [hst]
   rcases hnx with rfl | ⟨rfl, rfl⟩ <;> rfl
  rw [e1, e2], f1, o1, fun h => by rw [f1.size]; exact hs' h, ?_⟩
 rw [hfin]
 exact (hk' f1.veil.flat hkp).out
/-- A plain operation, whatever it does; where others may allot, it runs in its world with hidden blocks behind it. -/
theorem kOpG (hS : Bodies P S) (hK : KOk P main gr st Live K) (hF : Flat P v) {ops : Array Oper} {i : Nat} {rest : List Nat} {o : Oper} {tmps : Array Value} {d : List Deferred} (hk : b.kind ≠ .early) (ho : ops[i]? = some o) (hw : Region.wanted o (yielded ops tmps) = true) (hok : opOk P S o = true)
  (he : ∀ n, v.heap.size ≤ n → (gr = false → n = v.heap.size) → ∀ t e, ∃ val v', (execOp (Act.mk tmps []).eval o).run P ((v.upto n).re t e) = .ok (.value val) v' ∧ (st = true → v'.heap.size = n) ∧ (Flat P v' → KA K (G (b.at ((Act.mk tmps d).put o.dst val) (.inRegion ops rest :: k)) cs) v')) :
  KA K (G (b.at ⟨tmps, d⟩ (.inRegion ops (i :: rest) :: k)) cs) v := by
 intro t e
 refine hK.step _ (v.re t e) rfl fun w hV hz hL => ?_
 have hVu := (hV.upto (n := w.heap.size) (Nat.le_refl _)).re w.tape w.drawn
 have hle : v.heap.size ≤ w.heap.size := hV.size
 have hsz : w.heap.size = ((((v.re t e).upto w.heap.size).re w.tape w.drawn)).heap.size := by
  show w.heap.size = (v.upto w.heap.size).heap.size
  rw [upto_size]; omega
 obtain ⟨val, v', hrun, hs', hk'⟩ := he w.heap.size hle (fun h => hz h) w.tape w.drawn
 have hrun' : (execOp (Act.mk tmps []).eval o).run P (((v.re t e).upto w.heap.size).re w.tape w.drawn) = .ok (.value val) v' := hrun
 obtain ⟨_, w', es, f1, o1, _, hst⟩ := op_step (main := main) (d := d) (k := k) (cs := cs) hS hk (x := ⟨b.fn, tmps, [.inRegion ops (i :: rest)], true⟩) rfl rfl ho hw hok hVu hsz rfl rfl hrun'
 refine ⟨_, v', w', es, by
  have e1 : stepG P main (G (b.at ⟨tmps, d⟩ (.inRegion ops (i :: rest) :: k)) cs) w = stepG P main (G (frm d k b.kind ⟨b.fn, tmps, [.inRegion ops (i :: rest)], true⟩) cs) w := rfl
  rw [e1, hst]
  simp only [GStep.after]
  rfl, f1, o1, fun h => by rw [f1.size]; exact hs' h, ?_⟩
 have hfin : (frm d k b.kind ⟨b.fn, tmps, [.inRegion ops (i :: rest)], true⟩).finish val = b.at ((Act.mk tmps d).put o.dst val) (.inRegion ops rest :: k) := by
  show (b.at ⟨tmps, d⟩ (.inRegion ops (i :: rest) :: k)).finish val = _
  rw [Frame.finish_at, ho]; rfl
 rw [hfin]
 exact (hk' f1.veil.flat).out
end
end Go.Proofs.Ythmgpkcijolljaa
