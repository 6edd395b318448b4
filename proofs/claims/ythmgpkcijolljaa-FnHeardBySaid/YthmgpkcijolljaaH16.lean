/-
  slices.DeleteFunc of one number, at a row of the call's own, where others may allot.
-/
import Derived.Test.YthmgpkcijolljaaH15
import Derived.Lib.SliceRun
namespace Go.Proofs.Ythmgpkcijolljaa
open Go.Conc Go.RowKit Go.Conc.Lib
open Go.ConcN (upd upd_same upd_ne)
set_option linter.unusedSimpArgs false
set_option linter.unusedVariables false
section
variable {P : Program} {main gr st : Bool} {Live : World → Prop} {K : Goroutine → World → Prop} {v : World} {b : Frame} {a : Act} {k : List Item} {cs : List Frame}
/-- The call of a function value. -/
theorem kCallV (hK : KOk P main gr st Live K) (hF : Flat P v) {ops : Array Oper} {i : Nat} {rest : List Nat} {o : Oper} {f : FuncId} {fn : Func} {c : Code} {x : Operand} {args : Array Operand} {ats : Array TypeId} {cap : Array Value}
  (ho : ops[i]? = some o) (hw : Region.wanted o (yielded ops a.tmps) = true) (hk : b.kind ≠ .early) (hop : o.op = .call { callee := .value x, args, argTypes := ats }) (hx : a.eval x = .func (.func f) #[] cap)
  (hf : P.funcs[f]? = some fn) (hname : (fn.name == "runtime.NumGoroutine") = false) (hb : fn.body = some c)
  (h : KA K (G ((base f).at { tmps := (args.map a.eval ++ cap) ++ Array.replicate (fn.ntmps - (args.map a.eval ++ cap).size) undef, defers := [] } [.code c]) (b.at a (.inRegion ops (i :: rest) :: k) :: cs)) v) :
  KA K (G (b.at a (.inRegion ops (i :: rest) :: k)) cs) v := by
 have h1 : ¬ fn.name = "runtime.NumGoroutine" := by simpa using hname
 have h2 : ¬ fn.body = none := by rw [hb]; exact fun e => by cases e
 have hrun : ∀ w : World, (execOp a.eval o).run P w = .ok (.enter f (args.map a.eval ++ cap)) w := fun w => by
  unfold execOp
  simp [hop, resolve, hx, Deferred.ofValue, invoke, callFunc, hf, h1, h2]
 have hev : ∀ w : World, (execOp a.eval o).events P w #[] = #[] := fun w => by
  unfold execOp
  simp [hop, resolve, hx, Deferred.ofValue, invoke, callFunc, hf, h1, h2]
 refine kstep hK hF rfl (fun w => ?_) h
 rw [stepG_enter ho hw hk (hrun w), enter_at _ hf hb, listed0 (hev w)]
end
section
variable {main gr st : Bool} {Live : World → Prop} {K : Goroutine → World → Prop} {u : World} {g : Nat}
set_option maxRecDepth 100000 in
/-- The predicate of move. -/
theorem clo_call (hK : KOk Try.prog main gr st Live K) (hF : Flat Try.prog u) {b : Frame} {a : Act} {k : List Item} {cs : List Frame} {ops : Array Oper} {i : Nat} {rest : List Nat} {o : Oper} {x y : Operand} {ats : Array TypeId} {bq : Nat} {z : Int}
  (ho : ops[i]? = some o) (hw : Region.wanted o (yielded ops a.tmps) = true) (hk : b.kind ≠ .early) (hop : o.op = .call { callee := .value x, args := #[y], argTypes := ats }) (hx : a.eval x = .func (.func 71) #[] #[.pointer (some ⟨bq, 0, none⟩)]) (hy : a.eval y = .int .i64 z)
  (hc : u.cell? ⟨bq, 0, none⟩ = some (.int .i64 g)) (h : KA K (G (b.at (a.put o.dst (.bool (z == (g : Int)))) (.inRegion ops rest :: k)) cs) u) : KA K (G (b.at a (.inRegion ops (i :: rest) :: k)) cs) u := by
 have hdst : (ops[i]?).bind (·.dst) = o.dst := by rw [ho]; rfl
 refine kCallV hK hF ho hw hk hop hx Try.func71 (by kernel_rfl) rfl ?_
 simp only [List.map_toArray, List.map_cons, List.map_nil, hy]
 walk_nrmf Try.f71
 refine kSeq hK hF (kRegion hK hF ?_)
 refine kOp closedS.bodies hK hF (val := .bool false) (by k_ne) rfl rfl (by kernel_rfl) (fun v₁ hv => by go_simp <;> rfl) ?_
 walk_nrm
 refine kRegEnd hK hF (kSeq hK hF (kRegion hK hF ?_))
 refine kOp closedS.bodies hK hF (val := .int .i64 z) (by k_ne) rfl rfl (by kernel_rfl) (fun v₁ hv => by go_simp <;> rfl) ?_
 walk_nrm
 refine kOp closedS.bodies hK hF (val := .int .i64 g) (by k_ne) rfl rfl (by kernel_rfl) (fun v₁ hv => by have := cell_up hv hc; go_simp <;> rfl) ?_
 walk_nrm
 refine kOp closedS.bodies hK hF (val := .bool (z == (g : Int))) (by k_ne) rfl rfl (by kernel_rfl) (fun v₁ hv => by go_simp <;> rfl) ?_
 walk_nrm
 refine kOp closedS.bodies hK hF (val := .bool (z == (g : Int))) (by k_ne) rfl rfl (by kernel_rfl) (fun v₁ hv => by go_simp <;> rfl) ?_
 walk_nrm
 refine kRegEnd hK hF (kRet hK hF ?_)
 refine kLeave1 hK hF rfl rfl Try.func71 rfl ?_
 rw [hdst]
 exact h
end
noncomputable def body82 : Code := Try.f82.body.getD .skip
noncomputable def L82 : Code := match body82 with | .seq _ (.seq (.seq _ (.block _ (.loop c))) _) => c | _ => .skip
noncomputable def E82 : Code := match body82 with | .seq _ (.seq _ c) => c | _ => .skip
section
variable {main gr st : Bool} {Live : World → Prop} {K : Goroutine → World → Prop} {u : World} {g bq cp : Nat} {l l1 l2 : List Int} {ad : Addr}
set_option maxRecDepth 100000 in
set_option maxHeartbeats 1000000 in
theorem idx_loop (hK : KOk Try.prog main gr st Live K) (hF : Flat Try.prog u) {b : Frame} {a : Act} {k : List Item} {cs : List Frame} {ops : Array Oper} {i : Nat} {rest : List Nat} {dst : Option Tmp} (hdst : (ops[i]?).bind (·.dst) = dst) (hl : l = l1 ++ (g : Int) :: l2) (hn : (g : Int) ∉ l1) (hlen : l.length ≤ 1000)
  (hc : ∀ p (hp : p < l.length), u.cell? (ad.add p) = some (.int .i64 l[p])) (hg : u.cell? ⟨bq, 0, none⟩ = some (.int .i64 g)) (h : KA K (G (b.at (a.put dst (.int .i64 l1.length)) (.inRegion ops rest :: k)) cs) u) :
  ∀ (m p : Nat), p + m = l1.length → ∀ x2 x3 x5 x9 x10 x11 x12 x13 x14 x15 x16 x17 x18, KA K (G ((Conc.base 82).at ⟨#[.slice (some ad) l.length cp, .func (.func 71) #[] #[.pointer (some ⟨bq, 0, none⟩)], x2, x3, .int .i64 (0 : Nat), x5, .slice (some ad) l.length cp, .int .i64 l.length, .int .i64 p, x9, x10, x11, x12, x13, x14, x15, x16, x17, x18], []⟩ [.code L82, .inLoop L82, .inBlock 0, .code E82]) (b.at a (.inRegion ops (i :: rest) :: k) :: cs)) u := by
 intro m
 induction m with
 | zero =>
  intro p hp x2 x3 x5 x9 x10 x11 x12 x13 x14 x15 x16 x17 x18
  obtain rfl : p = l1.length := by omega
  have hpl : l1.length < l.length := by rw [hl]; simp
  have hlt : (l1.length : Int) < (l.length : Int) := by omega
  have hcp := hc l1.length hpl
  have hv0 : l[l1.length] = (g : Int) := by simp [hl]
  rw [hv0] at hcp
  clear hl hv0
  simp only [L82, E82, body82, Try.f82, Option.getD_some]
  refine kSeq hK hF (kRegion hK hF ?_)
  refine kOp closedS.bodies hK hF (val := .bool true) (by k_ne) rfl rfl (by kernel_rfl) (fun v₁ hv => by go_simp; try simp [hlt]) ?_
  walk_nrm
  refine kRegEnd hK hF (kSeq hK hF (kCond hK hF (t := true) (by rfl) ?_))
  simp only [if_true]
  refine kSkip hK hF (kSeq hK hF (kBlock hK hF (kSeq hK hF (kRegion hK hF ?_))))
  refine kOp closedS.bodies hK hF (val := .int .i64 l1.length) (by k_ne) rfl rfl (by kernel_rfl) (fun v₁ hv => by go_simp <;> rfl) ?_
  walk_nrm
  refine kOp closedS.bodies hK hF (val := .int .i64 l1.length) (by k_ne) rfl rfl (by kernel_rfl) (fun v₁ hv => by go_simp <;> rfl) ?_
  walk_nrm
  refine kRegEnd hK hF (kSeq hK hF (kRegion hK hF ?_))
  refine kOp closedS.bodies hK hF (val := .func (.func 71) #[] #[.pointer (some ⟨bq, 0, none⟩)]) (by k_ne) rfl rfl (by kernel_rfl) (fun v₁ hv => by go_simp <;> rfl) ?_
  walk_nrm
  refine kOp closedS.bodies hK hF (val := .slice (some ad) l.length cp) (by k_ne) rfl rfl (by kernel_rfl) (fun v₁ hv => by go_simp <;> rfl) ?_
  walk_nrm
  refine kOp closedS.bodies hK hF (val := .int .i64 l1.length) (by k_ne) rfl rfl (by kernel_rfl) (fun v₁ hv => by go_simp <;> rfl) ?_
  walk_nrm
  refine kOp closedS.bodies hK hF (val := .pointer (some (ad.add l1.length))) (by k_ne) rfl rfl (by kernel_rfl) (fun v₁ hv => by go_simp <;> rfl) ?_
  walk_nrm
  refine kOp closedS.bodies hK hF (val := .int .i64 g) (by k_ne) rfl rfl (by kernel_rfl) (fun v₁ hv => by have := cell_up hv hcp; go_simp <;> rfl) ?_
  walk_nrm
  refine clo_call hK hF rfl rfl (by k_ne) rfl (bq := bq) (z := g) (g := g) rfl rfl hg ?_
  walk_nrm
  refine kRegEnd hK hF (kCond hK hF (t := true) (by show Value.bool ((g : Int) == g) = _; simp) ?_)
  simp only [if_true]
  refine kSeq hK hF (kRegion hK hF ?_)
  refine kOp closedS.bodies hK hF (val := .int .i64 l1.length) (by k_ne) rfl rfl (by kernel_rfl) (fun v₁ hv => by go_simp <;> rfl) ?_
  walk_nrm
  refine kOp closedS.bodies hK hF (val := .int .i64 l1.length) (by k_ne) rfl rfl (by kernel_rfl) (fun v₁ hv => by go_simp <;> rfl) ?_
  walk_nrm
  refine kRegEnd hK hF (kRet hK hF ?_)
  refine kLeave1 hK hF rfl rfl Try.func82 rfl ?_
  rw [hdst]
  exact h
 | succ m ih =>
  intro p hp x2 x3 x5 x9 x10 x11 x12 x13 x14 x15 x16 x17 x18
  have hpl : p < l.length := by rw [hl]; simp; omega
  have hlt : (p : Int) < (l.length : Int) := by omega
  have hcp := hc p hpl
  have hv1 : l[p] ∈ l1 := by
   have : l[p] = l1[p]'(by omega) := by simp [hl, List.getElem_append_left (show p < l1.length by omega)]
   rw [this]; exact List.getElem_mem _
  obtain ⟨z, hz⟩ : ∃ z, z = l[p] := ⟨_, rfl⟩
  rw [← hz] at hcp hv1
  have hzg : (z == (g : Int)) = false := by
   rw [beq_eq_false_iff_ne]; rintro rfl; exact hn hv1
  have ih' := ih (p + 1) (by omega)
  have hi64 : IntKind.i64.wrap ((p : Int) + 1) = ((p + 1 : Nat) : Int) := by rw [IntKind.wrap_i64]; omega
  clear hz hc ih hl
  simp only [L82, E82, body82, Try.f82, Option.getD_some] at ih' ⊢
  refine kSeq hK hF (kRegion hK hF ?_)
  refine kOp closedS.bodies hK hF (val := .bool true) (by k_ne) rfl rfl (by kernel_rfl) (fun v₁ hv => by go_simp; try simp [hlt]) ?_
  walk_nrm
  refine kRegEnd hK hF (kSeq hK hF (kCond hK hF (t := true) (by rfl) ?_))
  simp only [if_true]
  refine kSkip hK hF (kSeq hK hF (kBlock hK hF (kSeq hK hF (kRegion hK hF ?_))))
  refine kOp closedS.bodies hK hF (val := .int .i64 p) (by k_ne) rfl rfl (by kernel_rfl) (fun v₁ hv => by go_simp <;> rfl) ?_
  walk_nrm
  refine kOp closedS.bodies hK hF (val := .int .i64 p) (by k_ne) rfl rfl (by kernel_rfl) (fun v₁ hv => by go_simp <;> rfl) ?_
  walk_nrm
  refine kRegEnd hK hF (kSeq hK hF (kRegion hK hF ?_))
  refine kOp closedS.bodies hK hF (val := .func (.func 71) #[] #[.pointer (some ⟨bq, 0, none⟩)]) (by k_ne) rfl rfl (by kernel_rfl) (fun v₁ hv => by go_simp <;> rfl) ?_
  walk_nrm
  refine kOp closedS.bodies hK hF (val := .slice (some ad) l.length cp) (by k_ne) rfl rfl (by kernel_rfl) (fun v₁ hv => by go_simp <;> rfl) ?_
  walk_nrm
  refine kOp closedS.bodies hK hF (val := .int .i64 p) (by k_ne) rfl rfl (by kernel_rfl) (fun v₁ hv => by go_simp <;> rfl) ?_
  walk_nrm
  refine kOp closedS.bodies hK hF (val := .pointer (some (ad.add p))) (by k_ne) rfl rfl (by kernel_rfl) (fun v₁ hv => by go_simp <;> rfl) ?_
  walk_nrm
  refine kOp closedS.bodies hK hF (val := .int .i64 z) (by k_ne) rfl rfl (by kernel_rfl) (fun v₁ hv => by have := cell_up hv hcp; go_simp <;> rfl) ?_
  walk_nrm
  refine clo_call hK hF rfl rfl (by k_ne) rfl (bq := bq) (z := z) (g := g) rfl rfl hg ?_
  walk_nrm
  refine kRegEnd hK hF (kCond hK hF (t := false) (congrArg Value.bool hzg) ?_)
  simp only [Bool.false_eq_true, if_false]
  refine kSkip hK hF (kInBlock hK hF (kRegion hK hF ?_))
  refine kOp closedS.bodies hK hF (val := .int .i64 ((p + 1 : Nat) : Int)) (by k_ne) rfl rfl (by kernel_rfl) (fun v₁ hv => by go_simp; try simp [hi64]) ?_
  walk_nrm
  refine kOp closedS.bodies hK hF (val := .int .i64 ((p + 1 : Nat) : Int)) (by k_ne) rfl rfl (by kernel_rfl) (fun v₁ hv => by go_simp <;> rfl) ?_
  walk_nrm
  refine kRegEnd hK hF (kInLoop hK hF ?_)
  exact ih' _ _ _ _ _ _ _ _ _ _ _ _ _
set_option maxRecDepth 100000 in
set_option maxHeartbeats 1000000 in
theorem idx_call (hK : KOk Try.prog main gr st Live K) (hF : Flat Try.prog u) {b : Frame} {a : Act} {k : List Item} {cs : List Frame} {ops : Array Oper} {i : Nat} {rest : List Nat} {o : Oper} {x y : Operand} {ats : Array TypeId} (ho : ops[i]? = some o) (hw : Region.wanted o (yielded ops a.tmps) = true) (hk : b.kind ≠ .early) (hop : o.op = .call { callee := .value (.func 82), args := #[x, y], argTypes := ats })
  (hx : a.eval x = .slice (some ad) l.length cp) (hy : a.eval y = .func (.func 71) #[] #[.pointer (some ⟨bq, 0, none⟩)]) (hl : l = l1 ++ (g : Int) :: l2) (hn : (g : Int) ∉ l1) (hlen : l.length ≤ 1000)
  (hc : ∀ p (hp : p < l.length), u.cell? (ad.add p) = some (.int .i64 l[p])) (hg : u.cell? ⟨bq, 0, none⟩ = some (.int .i64 g)) (h : KA K (G (b.at (a.put o.dst (.int .i64 l1.length)) (.inRegion ops rest :: k)) cs) u) : KA K (G (b.at a (.inRegion ops (i :: rest) :: k)) cs) u := by
 have hdst : (ops[i]?).bind (·.dst) = o.dst := by rw [ho]; rfl
 have hlp := idx_loop (cp := cp) (l2 := l2) hK hF (cs := cs) (k := k) (b := b) (a := a) (rest := rest) hdst hl hn hlen hc hg h l1.length 0 (by omega)
 simp only [L82, E82, body82, Try.f82, Option.getD_some] at hlp
 refine kCall hK hF ho hw hk hop Try.func82 (by kernel_rfl) rfl ?_
 simp only [List.map_toArray, List.map_cons, List.map_nil, hx, hy]
 walk_nrmf Try.f82
 refine kSeq hK hF (kRegion hK hF ?_)
 refine kOp closedS.bodies hK hF (val := .int .i64 (0 : Nat)) (by k_ne) rfl rfl (by kernel_rfl) (fun v₁ hv => by go_simp <;> rfl) ?_
 walk_nrm
 refine kRegEnd hK hF (kSeq hK hF (kSeq hK hF (kRegion hK hF ?_)))
 refine kOp closedS.bodies hK hF (val := .slice (some ad) l.length cp) (by k_ne) rfl rfl (by kernel_rfl) (fun v₁ hv => by go_simp <;> rfl) ?_
 walk_nrm
 refine kOp closedS.bodies hK hF (val := .int .i64 l.length) (by k_ne) rfl rfl (by kernel_rfl) (fun v₁ hv => by go_simp <;> rfl) ?_
 walk_nrm
 refine kOp closedS.bodies hK hF (val := .int .i64 (0 : Nat)) (by k_ne) rfl rfl (by kernel_rfl) (fun v₁ hv => by go_simp <;> rfl) ?_
 walk_nrm
 refine kRegEnd hK hF (kBlock hK hF (kLoop hK hF ?_))
 exact hlp _ _ _ _ _ _ _ _ _ _ _ _ _
end
end Go.Proofs.Ythmgpkcijolljaa
/-
  slices.DeleteFunc: its call.
-/
namespace Go.Proofs.Ythmgpkcijolljaa
open Go.Conc Go.RowKit Go.Conc.Lib
open Go.ConcN (upd upd_same upd_ne)
set_option linter.unusedSimpArgs false
set_option linter.unusedVariables false
theorem own_take {w : World} {base gk n m cap : Nat} {e : TypeId} {xs : List Value} (h : w.ownsRow base e 1 (.slice (some ⟨gk, 0, none⟩) n cap) n xs) (hm : m ≤ n) : w.ownsRow base e 1 (.slice (some ⟨gk, 0, none⟩) m cap) m (xs.take m) := by
 refine ⟨by have := h.1; simp [this]; omega, ?_⟩
 rcases h.2 with ⟨h1, _⟩ | ⟨g, cp, cur, h1, h2, h3, h4, h5, h6, h7⟩
 ·cases h1
 ·injection h1 with a1 a2 a3
  injection a1 with a1
  injection a1 with a1
  subst a1
  subst a3
  refine .inr ⟨gk, cap, cur, rfl, h2, h3, by omega, h5, h6, ?_⟩
  rw [← h7, List.take_take]
  congr 1
  omega
/-- What lies in the row when t of the later ones have moved up. -/
def mvL (l1 l2 : List Int) (g : Int) (t : Nat) : List Int := (l1 ++ l2.take t) ++ (l1 ++ g :: l2).drop (l1.length + t)
theorem mvL_len (l1 l2 : List Int) (g : Int) (t : Nat) (h : t ≤ l2.length) : (mvL l1 l2 g t).length = l1.length + l2.length + 1 := by
 simp [mvL]; omega
theorem mvL_zero (l1 l2 : List Int) (g : Int) : mvL l1 l2 g 0 = l1 ++ g :: l2 := by simp [mvL]
theorem mvL_at (l1 l2 : List Int) (g : Int) (t : Nat) (h : t < l2.length) : (mvL l1 l2 g t)[l1.length + 1 + t]? = l2[t]? := by
 unfold mvL
 rw [List.getElem?_append_right (by simp; omega)]
 simp only [List.length_append, List.length_take, List.getElem?_drop]
 rw [Nat.min_eq_left (by omega), show l1.length + t + (l1.length + 1 + t - (l1.length + t)) = l1.length + (t + 1) by omega, List.getElem?_append_right (by omega), show l1.length + (t + 1) - l1.length = t + 1 by omega]
 rfl
theorem mvL_set (l1 l2 : List Int) (g : Int) (t : Nat) (h : t < l2.length) : (mvL l1 l2 g t).set (l1.length + t) l2[t] = mvL l1 l2 g (t + 1) := by
 have hlen : (l1 ++ l2.take t).length = l1.length + t := by simp; omega
 unfold mvL
 have hd : (l1 ++ g :: l2).drop (l1.length + t) = ((l1 ++ g :: l2)[l1.length + t]'(by simp; omega)) :: (l1 ++ g :: l2).drop (l1.length + (t + 1)) := List.drop_eq_getElem_cons (by simp; omega)
 rw [hd, List.set_append_right _ _ (by omega), hlen, Nat.sub_self, List.set_cons_zero]
 have e : (l1 ++ g :: l2).drop (l1.length + (t + 1)) = l2.drop t := by
  rw [List.drop_append]; simp
 rw [e, List.take_add_one, List.getElem?_eq_getElem h]
 simp only [Option.toList, List.append_assoc, List.singleton_append, List.cons_append, List.nil_append]
theorem mvL_end (l1 l2 : List Int) (g : Int) : (mvL l1 l2 g l2.length).take (l1.length + l2.length) = l1 ++ l2 := by
 unfold mvL
 rw [List.take_of_length_le (l := l2) (Nat.le_refl _)]
 exact List.take_left' (by simp)
/-- the row in the making -/
structure Dl (u0 u : World) (B0 gk cp bq g : Nat) (l1 l2 : List Int) (t : Nat) : Prop where
 flat : Flat Try.prog u
 size : u0.heap.size ≤ u.heap.size
 get : ∀ q, q < u0.heap.size → q ≠ gk → u.heap[q]? = u0.heap[q]?
 row : u.ownsRow B0 3 1 (.slice (some ⟨gk, 0, none⟩) (l1.length + l2.length + 1) cp) (l1.length + l2.length + 1) (ints (mvL l1 l2 g t))
 box : u.cell? ⟨bq, 0, none⟩ = some (.int .i64 g)
theorem Dl.put {u0 u u1 : World} {B0 gk cp bq g : Nat} {l1 l2 : List Int} {t i : Nat} {x : Int} (h : Dl u0 u B0 gk cp bq g l1 l2 t) (hU : Ups u u1) (hb : bq ≠ gk) {l' : List Int} (hl : (mvL l1 l2 g t).set i x = l') (hF : Flat Try.prog (u1.setCell ⟨gk, i, none⟩ (.int .i64 x))) :
  u0.heap.size ≤ (u1.setCell ⟨gk, i, none⟩ (.int .i64 x)).heap.size ∧ (∀ q, q < u0.heap.size → q ≠ gk → (u1.setCell ⟨gk, i, none⟩ (.int .i64 x)).heap[q]? = u0.heap[q]?) ∧
   (u1.setCell ⟨gk, i, none⟩ (.int .i64 x)).ownsRow B0 3 1 (.slice (some ⟨gk, 0, none⟩) (l1.length + l2.length + 1) cp) (l1.length + l2.length + 1) (ints l') ∧ (u1.setCell ⟨gk, i, none⟩ (.int .i64 x)).cell? ⟨bq, 0, none⟩ = some (.int .i64 g) := by
 have hr := (hU.own h.row).stored i (.int .i64 x)
 rw [ints_set, hl] at hr
 refine ⟨by rw [set_size]; exact Nat.le_trans h.size hU.size, fun q hq hne => (heap_set_ne (by exact hne)).trans ((hU.get q (by have := h.size; omega)).trans (h.get q hq hne)), hr.1, ?_⟩
 exact (World.cell?_setCell_other u1 ⟨gk, i, none⟩ ⟨bq, 0, none⟩ _ (fun e => hb (by injection e with e1; exact e1.symm))).trans (hU.cell h.box)
noncomputable def body70 : Code := Try.f70.body.getD .skip
noncomputable def L70 : Code := match body70 with | .seq _ (.seq _ (.seq _ (.seq (.seq _ (.block _ (.loop c))) _))) => c | _ => .skip
noncomputable def E70 : Code := match body70 with | .seq _ (.seq _ (.seq _ (.seq _ c))) => c | _ => .skip
section
variable {main : Bool} {Live : World → Prop} {K : Goroutine → World → Prop} {u0 : World} {g B0 gk cp bq N1 : Nat} {l1 l2 : List Int}
set_option maxRecDepth 100000 in
set_option maxHeartbeats 1000000 in
theorem del_loop (hK : KOk Try.prog main true false Live K) {b : Frame} {a : Act} {k : List Item} {cs : List Frame} {ops : Array Oper} {i : Nat} {rest : List Nat} {dst : Option Tmp} (hdst : (ops[i]?).bind (·.dst) = dst) (hN : N1 = l1.length + l2.length) (hN2 : N1 ≤ 1000) (hn : (g : Int) ∉ l2) (hb : bq ≠ gk)
  (h : ∀ u, Flat Try.prog u → u0.heap.size ≤ u.heap.size → (∀ q, q < u0.heap.size → q ≠ gk → u.heap[q]? = u0.heap[q]?) → u.ownsRow B0 3 1 (.slice (some ⟨gk, 0, none⟩) N1 cp) N1 (ints (l1 ++ l2)) → KA K (G (b.at (a.put dst (.slice (some ⟨gk, 0, none⟩) N1 cp)) (.inRegion ops rest :: k)) cs) u) :
  ∀ (m t i0 j0 : Nat), t + m = l2.length → i0 = l1.length + t → j0 = l1.length + 1 + t → ∀ u, Dl u0 u B0 gk cp bq g l1 l2 t → ∀ x2 x3 x7 x8 x9 x10 x11 x12 x13 x14 x15 x16 x17 x18 x19 x20 x21 x22 x23 x24 x25 x26 x27 x28 x29 x30 x31 x32 x33 x34 x35 x36 x37 x38 x39 x40 x41, KA K (G ((Conc.base 70).at ⟨#[.slice (some ⟨gk, 0, none⟩) (N1 + 1) cp, .func (.func 71) #[] #[.pointer (some ⟨bq, 0, none⟩)], x2, x3, .slice none 0 0, .int .i64 i0, .int .i64 j0, x7, x8, x9, x10, x11, x12, x13, x14, x15, x16, x17, x18, x19, x20, x21, x22, x23, x24, x25, x26, x27, x28, x29, x30, x31, x32, x33, x34, x35, x36, x37, x38, x39, x40, x41], []⟩ [.code L70, .inLoop L70, .inBlock 0, .code E70]) (b.at a (.inRegion ops (i :: rest) :: k) :: cs)) u := by
 intro m
 induction m with
 | zero =>
  intro t i0 j0 ht hi0 hj0 u hD x2 x3 x7 x8 x9 x10 x11 x12 x13 x14 x15 x16 x17 x18 x19 x20 x21 x22 x23 x24 x25 x26 x27 x28 x29 x30 x31 x32 x33 x34 x35 x36 x37 x38 x39 x40 x41
  obtain rfl : t = l2.length := by omega
  obtain rfl : i0 = N1 := by omega
  obtain rfl : j0 = i0 + 1 := by omega
  have hF := hD.flat
  have hrow := hD.row
  rw [← hN] at hrow
  clear hi0 hj0
  have hcap : i0 + 1 ≤ cp ∧ cp ≤ maxLen := by
   rcases hrow.2 with ⟨h1, _⟩ | ⟨_, _, _, hv, _, _, hn, hm, _⟩
   ·cases h1
   ·injection hv with _ _ h3; subst h3; exact ⟨hn, hm⟩
  have hcl : ∃ x, u.cell? ⟨gk, i0, none⟩ = some (.int .i64 x) := by
   have e := hrow.cellAt i0 (by omega)
   have hl : i0 < (mvL l1 l2 g l2.length).length := by rw [mvL_len _ _ _ _ (Nat.le_refl _)]; omega
   rw [show (ints (mvL l1 l2 (g : Int) l2.length))[i0]? = some (.int .i64 ((mvL l1 l2 (g : Int) l2.length)[i0])) by simp [ints, List.getElem?_eq_getElem hl]] at e
   exact ⟨_, e⟩
  obtain ⟨xo, hcl⟩ := hcl
  have hfr := hrow.frozenAt i0
  have hnl : ¬ (((i0 + 1 : Nat) : Int) < ((i0 + 1 : Nat) : Int)) := by omega
  have hcp1 : (i0 : Int) ≤ (i0 : Int) + 1 := by omega
  have hcp2 : (i0 : Int) ≤ (cp : Int) := by omega
  have hcp3 : (i0 : Int) + 1 ≤ (cp : Int) := by omega
  have hcp4 : ¬ cp = i0 := by omega
  have HN := Lib.hid hN
  clear hN
  simp only [L70, E70, body70, Try.f70, Option.getD_some]
  refine kSeq hK hF (kSeq hK hF (kRegion hK hF ?_))
  refine kOp closedS.bodies hK hF (val := .int .i64 ((i0 + 1 : Nat) : Int)) (by k_ne) rfl rfl (by kernel_rfl) (fun v₁ hv => by go_simp <;> rfl) ?_
  walk_nrm
  refine kOp closedS.bodies hK hF (val := .slice (some ⟨gk, 0, none⟩) (i0 + 1) cp) (by k_ne) rfl rfl (by kernel_rfl) (fun v₁ hv => by go_simp <;> rfl) ?_
  walk_nrm
  refine kOp closedS.bodies hK hF (val := .int .i64 ((i0 + 1 : Nat) : Int)) (by k_ne) rfl rfl (by kernel_rfl) (fun v₁ hv => by go_simp <;> rfl) ?_
  walk_nrm
  refine kOp closedS.bodies hK hF (val := .bool false) (by k_ne) rfl rfl (by kernel_rfl) (fun v₁ hv => by go_simp; try simp [hnl]) ?_
  walk_nrm
  refine kRegEnd hK hF (kCond hK hF (t := false) (by rfl) ?_)
  simp only [Bool.false_eq_true, if_false]
  refine kExit hK hF (k' := _) (by rfl) (kSeq hK hF (kRegion hK hF ?_))
  refine kOp closedS.bodies hK hF (val := .slice (some ⟨gk, 0, none⟩) (i0 + 1) cp) (by k_ne) rfl rfl (by kernel_rfl) (fun v₁ hv => by go_simp <;> rfl) ?_
  walk_nrm
  refine kOp closedS.bodies hK hF (val := .int .i64 i0) (by k_ne) rfl rfl (by kernel_rfl) (fun v₁ hv => by go_simp <;> rfl) ?_
  walk_nrm
  refine kOp closedS.bodies hK hF (val := .slice (some ⟨gk, i0, none⟩) 1 (cp - i0)) (by k_ne) rfl rfl (by kernel_rfl) (fun v₁ hv => by go_simp; try simp [hcp4]) ?_
  walk_nrm
  refine kOpX closedS.bodies hK hF (by k_ne) rfl rfl (by kernel_rfl) fun n hn' _ t e => ⟨.value (.tuple #[]), .tuple #[], ((u.upto n).re t e).setCell ⟨gk, i0, none⟩ (.int .i64 0), .inl rfl, ?_, (fun h => by cases h), fun hF1 _ => ?_⟩
  ·have k6 : ((u.upto n).re t e).cell? ⟨gk, i0, none⟩ = some (.int .i64 xo) := ((Ups.upto u n).re t e).cell hcl
   have hh : ((u.upto n).re t e).heap[gk]? = u.heap[gk]? := ((Ups.upto u n).re t e).get _ (hrow.lt gk rfl).2
   have g6 : ((u.upto n).re t e).frozen? ⟨gk, i0, none⟩ = false := by rw [World.frozen?_of_block hh]; exact hfr
   have hz : ∀ w, (zeroValue 3).run Try.prog w = .ok (.int .i64 0) w := fun w => by
    obtain ⟨ii, hi, hz0, hz1, hz2⟩ := info_parts int_info'
    simp [zeroValue, hi, hz0]; rfl
   have hcl' := Lib.run_clear_slice (P := Try.prog) ((u.upto n).re t e) 32 3 0 (.int .i64 0) Try.underlying32 hz rfl rfl gk i0 1 (cp - i0) (by omega) (fun j hj => by obtain rfl : j = 0 := (by omega); rw [Nat.add_zero, k6]; rfl) (fun j hj => by obtain rfl : j = 0 := (by omega); exact g6)
   have hcl'' : (Builtin.clear_ #[32] 0 #[.slice (some ⟨gk, i0, none⟩) 1 (cp - i0)]).run Try.prog ((u.upto n).re t e) = .ok (.tuple #[]) (((u.upto n).re t e).setCell ⟨gk, i0, none⟩ (.int .i64 0)) := hcl'
   clear hcl' k6 g6 hh hcl hfr hrow
   unfold execOp
   go_simp
  ·have hP := hD.put (i := i0) (x := 0) ((Ups.upto u n).re t e) hb rfl hF1
   obtain ⟨p1, p2, p3, p4⟩ := hP
   have hrow2 := own_take p3 (m := i0) (by have := HN.out; omega)
   have e2 : (ints ((mvL l1 l2 (g : Int) l2.length).set i0 0)).take i0 = ints (l1 ++ l2) := by
    rw [← mvL_end l1 l2 g, ← HN.out]
    unfold ints
    rw [← List.map_take, List.take_set, List.set_eq_of_length_le (List.length_take_le _ _)]
   rw [e2] at hrow2
   have hfin := h _ hF1 p1 p2 hrow2
   generalize ((u.upto n).re t e).setCell ⟨gk, i0, none⟩ (.int .i64 0) = u1 at hF1 hfin
   clear p1 p2 p3 p4 hrow2 e2 h hrow hcl hfr
   walk_nrm
   refine kRegEnd hK hF1 (kSeq hK hF1 (kRegion hK hF1 ?_))
   refine kOp closedS.bodies hK hF1 (val := .slice (some ⟨gk, 0, none⟩) (i0 + 1) cp) (by k_ne) rfl rfl (by kernel_rfl) (fun v₁ hv => by go_simp <;> rfl) ?_
   walk_nrm
   refine kOp closedS.bodies hK hF1 (val := .int .i64 i0) (by k_ne) rfl rfl (by kernel_rfl) (fun v₁ hv => by go_simp <;> rfl) ?_
   walk_nrm
   refine kOp closedS.bodies hK hF1 (val := .slice (some ⟨gk, 0, none⟩) i0 cp) (by k_ne) rfl rfl (by kernel_rfl) (fun v₁ hv => by go_simp) ?_
   walk_nrm
   refine kOp closedS.bodies hK hF1 (val := .slice (some ⟨gk, 0, none⟩) i0 cp) (by k_ne) rfl rfl (by kernel_rfl) (fun v₁ hv => by go_simp <;> rfl) ?_
   walk_nrm
   refine kRegEnd hK hF1 (kRet hK hF1 ?_)
   refine kLeave1 hK hF1 rfl rfl Try.func70 rfl ?_
   rw [hdst]
   exact hfin
 | succ m ih =>
  intro t i0 j0 ht hi0 hj0 u hD x2 x3 x7 x8 x9 x10 x11 x12 x13 x14 x15 x16 x17 x18 x19 x20 x21 x22 x23 x24 x25 x26 x27 x28 x29 x30 x31 x32 x33 x34 x35 x36 x37 x38 x39 x40 x41
  have htl : t < l2.length := by omega
  have hF := hD.flat
  have hrow := hD.row
  obtain ⟨z, hz⟩ : ∃ z, z = l2[t] := ⟨_, rfl⟩
  have hcj : u.cell? ⟨gk, j0, none⟩ = some (.int .i64 z) := by
   rw [hrow.cellAt j0 (by omega), hj0]
   show ((mvL l1 l2 (g : Int) t).map (Value.int .i64))[l1.length + 1 + t]? = _
   rw [List.getElem?_map, mvL_at l1 l2 g t htl, List.getElem?_eq_getElem htl, hz]; rfl
  have hci : ∃ x, u.cell? ⟨gk, i0, none⟩ = some (.int .i64 x) := by
   have e := hrow.cellAt i0 (by omega)
   have hl : i0 < (mvL l1 l2 g t).length := by rw [mvL_len _ _ _ _ (by omega)]; omega
   rw [show (ints (mvL l1 l2 (g : Int) t))[i0]? = some (.int .i64 ((mvL l1 l2 (g : Int) t)[i0])) by simp [ints, List.getElem?_eq_getElem hl]] at e
   exact ⟨_, e⟩
  obtain ⟨xo, hci⟩ := hci
  have hfr := hrow.frozenAt i0
  have hzg : (z == (g : Int)) = false := by
   rw [beq_eq_false_iff_ne]; rintro rfl; exact hn (by rw [hz]; exact List.getElem_mem _)
  have hbox := hD.box
  have hgk := (hrow.lt gk rfl).2
  have hset : (mvL l1 l2 (g : Int) t).set i0 z = mvL l1 l2 g (t + 1) := by rw [hi0, hz]; exact mvL_set l1 l2 g t htl
  have hlt : (j0 : Int) < ((N1 + 1 : Nat) : Int) := by omega
  have hlt2 : (j0 : Int) < (N1 : Int) + 1 := by omega
  have hlt3 : (i0 : Int) < (N1 : Int) + 1 := by omega
  have hi64 : IntKind.i64.wrap ((i0 : Int) + 1) = ((i0 + 1 : Nat) : Int) := by rw [IntKind.wrap_i64]; omega
  have hj64 : IntKind.i64.wrap ((j0 : Int) + 1) = ((j0 + 1 : Nat) : Int) := by rw [IntKind.wrap_i64]; omega
  have ih' := ih (t + 1) (i0 + 1) (j0 + 1) (by omega) (by omega) (by omega)
  have HH := Lib.hid (And.intro hN (And.intro hi0 (And.intro hj0 hz)))
  clear ih hN hi0 hj0 hz hrow
  simp only [L70, E70, body70, Try.f70, Option.getD_some] at ih' ⊢
  refine kSeq hK hF (kSeq hK hF (kRegion hK hF ?_))
  refine kOp closedS.bodies hK hF (val := .int .i64 j0) (by k_ne) rfl rfl (by kernel_rfl) (fun v₁ hv => by go_simp <;> rfl) ?_
  walk_nrm
  refine kOp closedS.bodies hK hF (val := .slice (some ⟨gk, 0, none⟩) (N1 + 1) cp) (by k_ne) rfl rfl (by kernel_rfl) (fun v₁ hv => by go_simp <;> rfl) ?_
  walk_nrm
  refine kOp closedS.bodies hK hF (val := .int .i64 ((N1 + 1 : Nat) : Int)) (by k_ne) rfl rfl (by kernel_rfl) (fun v₁ hv => by go_simp <;> rfl) ?_
  walk_nrm
  refine kOp closedS.bodies hK hF (val := .bool true) (by k_ne) rfl rfl (by kernel_rfl) (fun v₁ hv => by go_simp; try simp [hlt2]) ?_
  walk_nrm
  refine kRegEnd hK hF (kCond hK hF (t := true) (by rfl) ?_)
  simp only [if_true]
  refine kSkip hK hF (kSeq hK hF (kBlock hK hF (kSeq hK hF (kRegion hK hF ?_))))
  refine kOp closedS.bodies hK hF (val := .slice (some ⟨gk, 0, none⟩) (N1 + 1) cp) (by k_ne) rfl rfl (by kernel_rfl) (fun v₁ hv => by go_simp <;> rfl) ?_
  walk_nrm
  refine kOp closedS.bodies hK hF (val := .int .i64 j0) (by k_ne) rfl rfl (by kernel_rfl) (fun v₁ hv => by go_simp <;> rfl) ?_
  walk_nrm
  refine kOp closedS.bodies hK hF (val := .pointer (some ⟨gk, j0, none⟩)) (by k_ne) rfl rfl (by kernel_rfl) (fun v₁ hv => by go_simp <;> rfl) ?_
  walk_nrm
  refine kOp closedS.bodies hK hF (val := .int .i64 z) (by k_ne) rfl rfl (by kernel_rfl) (fun v₁ hv => by have := cell_up hv hcj; go_simp <;> rfl) ?_
  walk_nrm
  refine kOp closedS.bodies hK hF (val := .int .i64 z) (by k_ne) rfl rfl (by kernel_rfl) (fun v₁ hv => by go_simp <;> rfl) ?_
  walk_nrm
  refine kRegEnd hK hF (kSeq hK hF (kRegion hK hF ?_))
  refine kOp closedS.bodies hK hF (val := .func (.func 71) #[] #[.pointer (some ⟨bq, 0, none⟩)]) (by k_ne) rfl rfl (by kernel_rfl) (fun v₁ hv => by go_simp <;> rfl) ?_
  walk_nrm
  refine kOp closedS.bodies hK hF (val := .int .i64 z) (by k_ne) rfl rfl (by kernel_rfl) (fun v₁ hv => by go_simp <;> rfl) ?_
  walk_nrm
  refine clo_call hK hF rfl rfl (by k_ne) rfl (bq := bq) (z := z) (g := g) rfl rfl hbox ?_
  rw [hzg]
  walk_nrm
  refine kOp closedS.bodies hK hF (val := .bool true) (by k_ne) rfl rfl (by kernel_rfl) (fun v₁ hv => by go_simp <;> rfl) ?_
  walk_nrm
  refine kRegEnd hK hF (kCond hK hF (t := true) (by rfl) ?_)
  simp only [if_true]
  refine kSeq hK hF (kRegion hK hF ?_)
  refine kOp closedS.bodies hK hF (val := .slice (some ⟨gk, 0, none⟩) (N1 + 1) cp) (by k_ne) rfl rfl (by kernel_rfl) (fun v₁ hv => by go_simp <;> rfl) ?_
  walk_nrm
  refine kOp closedS.bodies hK hF (val := .int .i64 i0) (by k_ne) rfl rfl (by kernel_rfl) (fun v₁ hv => by go_simp <;> rfl) ?_
  walk_nrm
  refine kOp closedS.bodies hK hF (val := .int .i64 z) (by k_ne) rfl rfl (by kernel_rfl) (fun v₁ hv => by go_simp <;> rfl) ?_
  walk_nrm
  refine kOp closedS.bodies hK hF (val := .pointer (some ⟨gk, i0, none⟩)) (by k_ne) rfl rfl (by kernel_rfl) (fun v₁ hv => by go_simp <;> rfl) ?_
  walk_nrm
  refine kOpX closedS.bodies hK hF (by k_ne) rfl rfl (by kernel_rfl) fun n hn' _ t' e => ⟨.skip, undef, ((u.upto n).re t' e).setCell ⟨gk, i0, none⟩ (.int .i64 z), .inr ⟨rfl, rfl⟩, ?_, (fun h => by cases h), fun hF1 _ => ?_⟩
  ·have k6 : ((u.upto n).re t' e).cell? ⟨gk, i0, none⟩ = some (.int .i64 xo) := ((Ups.upto u n).re t' e).cell hci
   have hh : ((u.upto n).re t' e).heap[gk]? = u.heap[gk]? := ((Ups.upto u n).re t' e).get _ hgk
   have g6 : ((u.upto n).re t' e).frozen? ⟨gk, i0, none⟩ = false := by rw [World.frozen?_of_block hh]; exact hfr
   clear hh
   unfold execOp
   go_simp
  ·obtain ⟨p1, p2, p3, p4⟩ := hD.put (i := i0) (x := z) ((Ups.upto u n).re t' e) hb hset hF1
   have hD1 : Dl u0 (((u.upto n).re t' e).setCell ⟨gk, i0, none⟩ (.int .i64 z)) B0 gk cp bq g l1 l2 (t + 1) := ⟨hF1, p1, p2, p3, p4⟩
   have ih2 := ih' _ hD1
   generalize ((u.upto n).re t' e).setCell ⟨gk, i0, none⟩ (.int .i64 z) = u1 at hF1 ih2
   clear p1 p2 p3 p4 ih' hcj hci hfr hbox
   walk_nrm
   refine kRegEnd hK hF1 (kRegion hK hF1 ?_)
   refine kOp closedS.bodies hK hF1 (val := .int .i64 i0) (by k_ne) rfl rfl (by kernel_rfl) (fun v₁ hv => by go_simp <;> rfl) ?_
   walk_nrm
   refine kOp closedS.bodies hK hF1 (val := .int .i64 ((i0 + 1 : Nat) : Int)) (by k_ne) rfl rfl (by kernel_rfl) (fun v₁ hv => by go_simp; try simp [hi64]) ?_
   walk_nrm
   refine kOp closedS.bodies hK hF1 (val := .int .i64 ((i0 + 1 : Nat) : Int)) (by k_ne) rfl rfl (by kernel_rfl) (fun v₁ hv => by go_simp <;> rfl) ?_
   walk_nrm
   refine kRegEnd hK hF1 (kInBlock hK hF1 (kRegion hK hF1 ?_))
   refine kOp closedS.bodies hK hF1 (val := .int .i64 j0) (by k_ne) rfl rfl (by kernel_rfl) (fun v₁ hv => by go_simp <;> rfl) ?_
   walk_nrm
   refine kOp closedS.bodies hK hF1 (val := .int .i64 ((j0 + 1 : Nat) : Int)) (by k_ne) rfl rfl (by kernel_rfl) (fun v₁ hv => by go_simp; try simp [hj64]) ?_
   walk_nrm
   refine kOp closedS.bodies hK hF1 (val := .int .i64 ((j0 + 1 : Nat) : Int)) (by k_ne) rfl rfl (by kernel_rfl) (fun v₁ hv => by go_simp <;> rfl) ?_
   walk_nrm
   refine kRegEnd hK hF1 (kInLoop hK hF1 ?_)
   exact ih2 _ _ _ _ _ _ _ _ _ _ _ _ _ _ _ _ _ _ _ _ _ _ _ _ _ _ _ _ _ _ _ _ _ _ _ _ _
set_option maxRecDepth 100000 in
set_option maxHeartbeats 1000000 in
/-- ████ DeleteFunc of one number ████ -/
theorem del_call (hK : KOk Try.prog main true false Live K) {b : Frame} {a : Act} {k : List Item} {cs : List Frame} {ops : Array Oper} {i : Nat} {rest : List Nat} {o : Oper} {x y : Operand} {ats : Array TypeId} (ho : ops[i]? = some o) (hw : Region.wanted o (yielded ops a.tmps) = true) (hk : b.kind ≠ .early) (hop : o.op = .call { callee := .value (.func 70), args := #[x, y], argTypes := ats })
  (hx : a.eval x = .slice (some ⟨gk, 0, none⟩) (N1 + 1) cp) (hy : a.eval y = .func (.func 71) #[] #[.pointer (some ⟨bq, 0, none⟩)]) (hF : Flat Try.prog u0) (hN : N1 = l1.length + l2.length) (hN2 : N1 ≤ 900) (hn1 : (g : Int) ∉ l1) (hn : (g : Int) ∉ l2) (hb : bq ≠ gk)
  (hrow : u0.ownsRow B0 3 1 (.slice (some ⟨gk, 0, none⟩) (N1 + 1) cp) (N1 + 1) (ints (l1 ++ (g : Int) :: l2))) (hg : u0.cell? ⟨bq, 0, none⟩ = some (.int .i64 g))
  (h : ∀ u, Flat Try.prog u → u0.heap.size ≤ u.heap.size → (∀ q, q < u0.heap.size → q ≠ gk → u.heap[q]? = u0.heap[q]?) → u.ownsRow B0 3 1 (.slice (some ⟨gk, 0, none⟩) N1 cp) N1 (ints (l1 ++ l2)) → KA K (G (b.at (a.put o.dst (.slice (some ⟨gk, 0, none⟩) N1 cp)) (.inRegion ops rest :: k)) cs) u) :
  KA K (G (b.at a (.inRegion ops (i :: rest) :: k)) cs) u0 := by
 have hdst : (ops[i]?).bind (·.dst) = o.dst := by rw [ho]; rfl
 have hll : (l1 ++ (g : Int) :: l2).length = N1 + 1 := by simp; omega
 have hD : Dl u0 u0 B0 gk cp bq g l1 l2 0 := ⟨hF, Nat.le_refl _, fun q _ _ => rfl, by rw [mvL_zero, ← hN]; exact hrow, hg⟩
 have hlp := del_loop (cs := cs) (k := k) (b := b) (a := a) (rest := rest) hK hdst hN (by omega) hn hb h l2.length 0 l1.length (l1.length + 1) (by omega) (by omega) (by omega) u0 hD
 have hc : ∀ p (hp : p < (l1 ++ (g : Int) :: l2).length), u0.cell? ((⟨gk, 0, none⟩ : Addr).add p) = some (.int .i64 (l1 ++ (g : Int) :: l2)[p]) := fun p hp => by
  have e := hrow.cellAt p (by omega)
  rw [show (⟨gk, 0, none⟩ : Addr).add p = ⟨gk, p, none⟩ by simp [Addr.add]; exact fun e => e.symm, e]
  show ((l1 ++ (g : Int) :: l2).map (Value.int .i64))[p]? = _
  rw [List.getElem?_map, List.getElem?_eq_getElem hp]; rfl
 have hne : ((l1.length : Int) == -1) = false := beq_eq_false_iff_ne.2 (by omega)
 have hi64 : IntKind.i64.wrap ((l1.length : Int) + 1) = ((l1.length + 1 : Nat) : Int) := by rw [IntKind.wrap_i64]; omega
 simp only [L70, E70, body70, Try.f70, Option.getD_some] at hlp
 refine kCall hK hF ho hw hk hop Try.func70 (by kernel_rfl) rfl ?_
 simp only [List.map_toArray, List.map_cons, List.map_nil, hx, hy]
 walk_nrmf Try.f70
 refine kSeq hK hF (kRegion hK hF ?_)
 refine kOp closedS.bodies hK hF (val := .slice none 0 0) (by k_ne) rfl rfl (by kernel_rfl) (fun v₁ hv => by go_simp <;> rfl) ?_
 walk_nrm
 refine kRegEnd hK hF (kSeq hK hF (kRegion hK hF ?_))
 refine kOp closedS.bodies hK hF (val := .slice (some ⟨gk, 0, none⟩) (N1 + 1) cp) (by k_ne) rfl rfl (by kernel_rfl) (fun v₁ hv => by go_simp <;> rfl) ?_
 walk_nrm
 refine kOp closedS.bodies hK hF (val := .func (.func 71) #[] #[.pointer (some ⟨bq, 0, none⟩)]) (by k_ne) rfl rfl (by kernel_rfl) (fun v₁ hv => by go_simp <;> rfl) ?_
 walk_nrm
 refine idx_call (l := l1 ++ (g : Int) :: l2) (l1 := l1) (l2 := l2) (g := g) (ad := ⟨gk, 0, none⟩) (bq := bq) (cp := cp) hK hF rfl rfl (by k_ne) rfl (by rw [hll]; rfl) rfl rfl hn1 (by omega) hc hg ?_
 clear hc hD hrow h
 walk_nrm
 refine kOp closedS.bodies hK hF (val := .int .i64 l1.length) (by k_ne) rfl rfl (by kernel_rfl) (fun v₁ hv => by go_simp <;> rfl) ?_
 walk_nrm
 refine kRegEnd hK hF (kSeq hK hF (kSeq hK hF (kRegion hK hF ?_)))
 refine kOp closedS.bodies hK hF (val := .int .i64 l1.length) (by k_ne) rfl rfl (by kernel_rfl) (fun v₁ hv => by go_simp <;> rfl) ?_
 walk_nrm
 refine kOp closedS.bodies hK hF (val := .bool ((l1.length : Int) == -1)) (by k_ne) rfl rfl (by kernel_rfl) (fun v₁ hv => by go_simp <;> rfl) ?_
 walk_nrm
 refine kRegEnd hK hF (kCond hK hF (t := false) (congrArg Value.bool hne) ?_)
 simp only [Bool.false_eq_true, if_false]
 refine kSkip hK hF (kSeq hK hF (kSeq hK hF (kRegion hK hF ?_)))
 refine kOp closedS.bodies hK hF (val := .int .i64 l1.length) (by k_ne) rfl rfl (by kernel_rfl) (fun v₁ hv => by go_simp <;> rfl) ?_
 walk_nrm
 refine kOp closedS.bodies hK hF (val := .int .i64 ((l1.length + 1 : Nat) : Int)) (by k_ne) rfl rfl (by kernel_rfl) (fun v₁ hv => by go_simp; try simp [hi64]) ?_
 walk_nrm
 refine kOp closedS.bodies hK hF (val := .int .i64 ((l1.length + 1 : Nat) : Int)) (by k_ne) rfl rfl (by kernel_rfl) (fun v₁ hv => by go_simp <;> rfl) ?_
 walk_nrm
 refine kRegEnd hK hF (kBlock hK hF (kLoop hK hF ?_))
 exact hlp _ _ _ _ _ _ _ _ _ _ _ _ _ _ _ _ _ _ _ _ _ _ _ _ _ _ _ _ _ _ _ _ _ _ _ _ _
end
end Go.Proofs.Ythmgpkcijolljaa
