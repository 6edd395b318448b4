/-
  The worker of sendLists: it sends its list's numbers over its channel, closes it, and says Done.
-/
import Derived.Test.YtoimhdhplebhgaaKGo
import Derived.Test.YtoimhdhplebhgaaKLink
import Derived.Test.YtoimhdhplebhgaaKPlainE
import Derived.Test.YtoimhdhplebhgaaKBase
import Derived.Conc.WgGenN3
namespace Go.Proofs.Ytoimhdhplebhgaa
open Go.Conc Go.RowKit Go.Conc.Lib Go.ConcR.Gen
open Go.ConcN (upd upd_same upd_ne)
open Go.ConcR (KK WgAt stA smA rd wr mk DC0)
set_option linter.unusedSimpArgs false
set_option linter.unusedVariables false

def b36 : Frame := baseD 36
noncomputable def bot : Frame := { (default : Frame) with fn := Try.prog.funcs.size, defers := [], mode := .panicking [goexitEntry] }
noncomputable def body36 : Code := Try.f36.body.getD .skip
noncomputable def L36 : Code := match body36 with | .seq _ (.seq _ (.seq _ (.block _ (.loop c)))) => c | _ => .skip
def call36 (bw bs bl : Nat) : Deferred := { target := .fn (.func 36) #[.pointer (some ⟨bw, 0, none⟩), .pointer (some ⟨bs, 0, none⟩), .pointer (some ⟨bl, 0, none⟩)], args := #[] }
def closeD (c : Nat) : Deferred := { target := .builtin .close #[51] 0 #[false], args := #[.chan (some c)] }
/-- What the worker sees. -/
structure WK (bw bs bl Wg c : Nat) (A : Option Addr) (l : List Int) (cap : Nat) (v : World) : Prop where
  wg : v.cell? ⟨bw, 0, none⟩ = some (.pointer (some ⟨Wg, 0, none⟩))
  src : v.cell? ⟨bs, 0, none⟩ = some (.chan (some c))
  lst : v.cell? ⟨bl, 0, none⟩ = some (.slice A l.length cap)
  row : ∀ k, (h : k < l.length) → ∃ ad, A = some ad ∧ v.cell? (ad.add k) = some (.int .i64 l[k])
  len : l.length ≤ 1048576
/-- What is asked of Done. -/
def DoneOk (Wg : Nat) : Prop := ∀ (c : Frame) (cs : List Frame) (qt : Nat), c.mode = .returning → QuitsD Try.prog qt 0 (G c cs) →
  WG Try.prog 47 Wg false (DRel Try.prog 47 Wg) (G ((baseD 37).at ⟨#[.pointer (some ⟨Wg, 0, none⟩), undef, undef, undef], []⟩ [.code (body_done lk)]) (c :: cs))

theorem WG.step {P : Program} {ty : TypeId} {Wg : Nat} {main : Bool} {Stop : Goroutine → World → Prop} {g g' : Goroutine} (hr : g.status = .running) (hs : ∀ w, stepG P main g w = .go g' w #[]) (h : WG P ty Wg main Stop g') : WG P ty Wg main Stop g := by
  obtain ⟨m, hm⟩ := h
  exact ⟨m + 1, fun w => Goes.step hr fun w₁ _ => by rw [hs]; exact ⟨⟨rfl, rfl⟩, hm _⟩⟩
theorem born_step (bw bs bl : Nat) (w : World) : stepG Try.prog false (born Try.prog (call36 bw bs bl)) w =
    .go (G (b36.at ⟨#[.pointer (some ⟨bw, 0, none⟩), .pointer (some ⟨bs, 0, none⟩), .pointer (some ⟨bl, 0, none⟩), undef, undef, undef, undef, undef, undef, undef, undef, undef, undef, undef, undef, undef], []⟩ [.code body36]) [bot]) w #[] := by
  simp [born, call36, stepG, unwind, callDeferred, invoke, callFunc, Try.func36, Try.f36, seen, GStep.after, G, Frame.enter, Frame.at, b36, baseD, bot, body36]
/-- The worker's way out once Done has left. -/
theorem quitsTail (T : Array Value) : QuitsD Try.prog 2 0 (G { b36.at ⟨T, []⟩ [] with mode := .returning } [bot]) := by
  refine QuitsD.ctl (g' := G bot []) rfl (fun w => ?_) ?_
  · simp [G, stepG, unwind, doReturn, results, Frame.at, b36, baseD, bot, Try.func36, Try.f36, seen, GStep.after, goexitEntry]
  refine QuitsD.ctl (g' := { G bot [] with status := .finished }) rfl (fun w => ?_) ⟨rfl, rfl⟩
  simp [G, stepG, unwind, bot, goexitEntry, Frame.catches]
  rfl
/-- The deferred close. -/
theorem closes36 (T : Array Value) (c : Nat) (ds : List Deferred) : Closes Try.prog false c (G { b36.at ⟨T, closeD c :: ds⟩ [] with mode := .returning } [bot]) (G { b36.at ⟨T, ds⟩ [] with mode := .returning } [bot]) := by
  refine ⟨rfl, rfl, rfl, fun w s r tm hc => ?_⟩
  have h1 := run_close_open (P := Try.prog) (w := w) #[51] 0 hc
  have h2 := events_close_open (P := Try.prog) (w := w) (es := #[]) #[51] 0 hc
  have hq : (Try.prog.funcs[36]?).any (·.norace) = false := by kernel_rfl
  have h3 : seen Try.prog 36 (shutEv c) = shutEv c := seen_eq hq (by intro e he f; rcases shutEv_mem he with rfl | rfl <;> simp)
  simp [G, stepG, unwind, callDeferred, Frame.at, b36, baseD, closeD, invoke, builtin, h1, h2, GStep.after] 
  exact ⟨rfl, h3⟩
end Go.Proofs.Ytoimhdhplebhgaa
/-
  The worker of sendLists: its whole way.
-/
namespace Go.Proofs.Ytoimhdhplebhgaa
open Go.Conc Go.RowKit Go.Conc.Lib Go.ConcR.Gen
open Go.ConcN (upd upd_same upd_ne)
open Go.ConcR (KK WgAt stA smA rd wr mk DC0)
set_option linter.unusedSimpArgs false
set_option linter.unusedVariables false

/-- A deferred call of a builtin: it goes onto the list. -/
theorem stepG_deferB {P : Program} {main : Bool} {b : Frame} {a : Act} {k : List Item} {cs : List Frame} {w : World} {ops : Array Oper} {i : Nat} {rest : List Nat} {o : Oper} {bi : Builtin} {xs : Array Operand} {ats : Array TypeId} (hk : b.kind ≠ .early) (ho : ops[i]? = some o) (hw : Region.wanted o (yielded ops a.tmps) = true)
    (hop : o.op = .defer { callee := .builtin bi, args := xs, argTypes := ats }) :
    stepG P main (G (b.at a (.inRegion ops (i :: rest) :: k)) cs) w = .go (G (b.at (Act.put ⟨a.tmps, { target := .builtin bi ats o.type (xs.map fun | .const _ => true | _ => false), args := xs.map a.eval } :: a.defers⟩ o.dst undef) (.inRegion ops rest :: k)) cs) w #[] := by
  have hr : (execOp a.eval o).run P w = .ok (.defer { target := .builtin bi ats o.type (xs.map fun | .const _ => true | _ => false), args := xs.map a.eval }) w := by
    unfold execOp
    simp [hop, resolve]
    intro x _
    cases x <;> rfl
  have he : (execOp a.eval o).events P w #[] = #[] := by
    unfold execOp
    simp [hop, resolve]
  have hfin : (b.at ⟨a.tmps, { target := .builtin bi ats o.type (xs.map fun | .const _ => true | _ => false), args := xs.map a.eval } :: a.defers⟩ (.inRegion ops (i :: rest) :: k)).finish undef = b.at (Act.put ⟨a.tmps, { target := .builtin bi ats o.type (xs.map fun | .const _ => true | _ => false), args := xs.map a.eval } :: a.defers⟩ o.dst undef) (.inRegion ops rest :: k) := by rw [Frame.finish_at, ho]; rfl
  have hk' : (b.kind == CallKind.early) = false := by simpa using hk
  rw [stepG_oper ho hw, ← hfin]
  simp [stepG.apply, hr, he, G, Frame.at, hk', GStep.after, seen_none]
theorem cell_up {v v₁ : World} (hv : ∀ (b : Nat) (o : Obj), v.heap[b]? = some o → v₁.heap[b]? = some o) {a : Addr} {x : Value} (h : v.cell? a = some x) : v₁.cell? a = some x := by
  obtain ⟨c, e, f, h1, h2, h3⟩ := cell?_some h
  simp [World.cell?, hv _ _ h1, h2, h3]
def says (l : List Int) : List Say := l.map (fun x => Say.send (.int .i64 x)) ++ [.close]
theorem says_nil : says [] = [.close] := rfl
theorem says_cons (x : Int) (l : List Int) : says (x :: l) = .send (.int .i64 x) :: says l := rfl
section
variable {bw bs bl Wg c cap : Nat} {A : Option Addr} {l : List Int} {v : World} {Dn : World → Prop}
/-- What the worker is on its way to. -/
def KW (Wg c : Nat) (Dn : World → Prop) (s : List Say) : Goroutine → World → Prop := Th Try.prog false true true (fun _ => True) (AtSay Try.prog 47 Wg true c Dn s)
theorem kw_ok (h1 : ∀ v t d, Dn (v.re t d) → Dn v) (h2 : ∀ v n, Flat Try.prog v → Dn v → Dn (v.upto n)) (s : List Say) : KOk Try.prog false true true (fun _ => True) (KW Wg c Dn s) := th_ok (say_ok h1 h2 s)
/-- The worker's registers at its loop. -/
def T36 (bw bs bl : Nat) (A : Option Addr) (n cap j : Nat) (x3 x4 x5 x6 x10 x11 x12 x13 x14 x15 : Value) : Array Value :=
  #[.pointer (some ⟨bw, 0, none⟩), .pointer (some ⟨bs, 0, none⟩), .pointer (some ⟨bl, 0, none⟩), x3, x4, x5, x6, .slice A n cap, .int .i64 n, .int .i64 j, x10, x11, x12, x13, x14, x15]
set_option maxRecDepth 100000 in
set_option maxHeartbeats 4000000 in
theorem worker_loop (hDone : DoneOk Wg) (h1 : ∀ v t d, Dn (v.re t d) → Dn v) (h2 : ∀ v n, Flat Try.prog v → Dn v → Dn (v.upto n)) (h3 : ∀ v t d, Dn v → Dn (v.re t d))
    (hF : Flat Try.prog v) (hW : WK bw bs bl Wg c A l cap v) (hD : Dn v) : ∀ (m j : Nat), j + m = l.length → ∀ x3 x4 x5 x6 x10 x11 x12 x13 x14 x15,
      KA (KW Wg c Dn (says (l.drop j))) (G (b36.at ⟨T36 bw bs bl A l.length cap j x3 x4 x5 x6 x10 x11 x12 x13 x14 x15, [closeD c, dcall 37 #[.pointer (some ⟨Wg, 0, none⟩)]]⟩ [.code L36, .inLoop L36, .inBlock 0]) [bot]) v := by
  intro m
  induction m with
  | zero =>
    intro j hj x3 x4 x5 x6 x10 x11 x12 x13 x14 x15
    obtain rfl : j = l.length := by omega
    rw [List.drop_length, says_nil]
    have hK := kw_ok (Wg := Wg) (c := c) h1 h2 [.close]
    have hnl : ¬ ((l.length : Int) < (l.length : Int)) := by omega
    simp only [L36, body36, Try.f36, Option.getD_some, T36]
    refine kSeq hK hF (kRegion hK hF ?_)
    refine kOp closedS.bodies hK hF (val := .bool false) (by k_ne) rfl rfl (by kernel_rfl) (fun v₁ hv => by go_simp; try simp [hnl]) ?_
    walk_nrm
    refine kRegEnd hK hF (kSeq hK hF (kCond hK hF (t := false) (by rfl) ?_))
    simp only [Bool.false_eq_true, if_false]
    refine kExit hK hF (k' := []) (by rfl) (kEnd hK hF ?_)
    intro t d
    refine Th.stop ⟨rfl, _, closes36 _ c _, Th.stop ⟨h3 _ _ _ hD, ?_⟩⟩
    refine WG.step rfl (fun w => stepG_unwind_enter rfl Try.func37 (by kernel_rfl) rfl) ?_
    exact hDone _ _ 2 rfl (quitsTail _)
  | succ m ih =>
    intro j hj x3 x4 x5 x6 x10 x11 x12 x13 x14 x15
    have hjn : j < l.length := by omega
    have hlt : (j : Int) < (l.length : Int) := by omega
    have hj0 : (0 : Int) ≤ (j : Int) := by omega
    have hlen := hW.len
    obtain ⟨ad, rfl, hcell⟩ := hW.row j hjn
    rw [List.drop_eq_getElem_cons hjn, says_cons]
    obtain ⟨x, hx⟩ : ∃ x, x = l[j] := ⟨_, rfl⟩
    rw [← hx] at hcell ⊢
    have hK := kw_ok (Wg := Wg) (c := c) h1 h2 (.send (.int .i64 x) :: says (l.drop (j + 1)))
    have hK' := kw_ok (Wg := Wg) (c := c) h1 h2 (says (l.drop (j + 1)))
    have hsrc := hW.src
    have ih' := fun x3 x4 x5 x6 x10 x11 x12 x13 x14 x15 => ih (j + 1) (by omega) x3 x4 x5 x6 x10 x11 x12 x13 x14 x15
    simp only [L36, body36, Try.f36, Option.getD_some, T36] at ih' ⊢
    refine kSeq hK hF (kRegion hK hF ?_)
    refine kOp closedS.bodies hK hF (val := .bool true) (by k_ne) rfl rfl (by kernel_rfl) (fun v₁ hv => by go_simp; try simp [hlt]) ?_
    walk_nrm
    refine kRegEnd hK hF (kSeq hK hF (kCond hK hF (t := true) (by rfl) ?_))
    simp only [if_true]
    refine kSkip hK hF (kSeq hK hF (kBlock hK hF (kSeq hK hF (kRegion hK hF ?_))))
    refine kOp closedS.bodies hK hF (val := .pointer (some (ad.add j))) (by k_ne) rfl rfl (by kernel_rfl) (fun v₁ hv => by go_simp) ?_
    walk_nrm
    refine kOp closedS.bodies hK hF (val := .int .i64 x) (by k_ne) rfl rfl (by kernel_rfl) (fun v₁ hv => by have := cell_up hv hcell; go_simp) ?_
    walk_nrm
    refine kOp closedS.bodies hK hF (val := .int .i64 x) (by k_ne) rfl rfl (by kernel_rfl) (fun v₁ hv => by go_simp) ?_
    walk_nrm
    refine kRegEnd hK hF (kRegion hK hF ?_)
    refine kOp closedS.bodies hK hF (val := .chan (some c)) (by k_ne) rfl rfl (by kernel_rfl) (fun v₁ hv => by have := cell_up hv hsrc; go_simp) ?_
    walk_nrm
    refine kOp closedS.bodies hK hF (val := .int .i64 x) (by k_ne) rfl rfl (by kernel_rfl) (fun v₁ hv => by go_simp) ?_
    walk_nrm
    intro t d
    refine Th.stop ⟨(fun e => by cases e), _, _, _, comm_at (cc := #[scase c (.int .i64 x) (.tuple #[])]) (sh := .send) rfl rfl (by k_ne) (fun w => by simp [execOp, scase, Act.eval]) (fun w => by simp [execOp, Act.eval]), ?_⟩
    rw [(after_at rfl).1]
    refine KA.out (v := v.re t d) (KA.re ?_)
    walk_nrm
    have hi64 : IntKind.i64.wrap ((j : Int) + 1) = ((j + 1 : Nat) : Int) := by rw [IntKind.wrap_i64]; omega
    refine kRegEnd hK' hF (kInBlock hK' hF (kRegion hK' hF ?_))
    refine kOp closedS.bodies hK' hF (val := .int .i64 ((j + 1 : Nat) : Int)) (by k_ne) rfl rfl (by kernel_rfl) (fun v₁ hv => by go_simp; try simp [hi64]) ?_
    walk_nrm
    refine kOp closedS.bodies hK' hF (val := .int .i64 ((j + 1 : Nat) : Int)) (by k_ne) rfl rfl (by kernel_rfl) (fun v₁ hv => by go_simp) ?_
    walk_nrm
    refine kRegEnd hK' hF (kInLoop hK' hF ?_)
    exact ih' _ _ _ _ _ _ _ _ _ _
set_option maxRecDepth 100000 in
set_option maxHeartbeats 4000000 in
/-- ████ THE WORKER, FROM ITS BIRTH. ████ -/
theorem worker_all (hDone : DoneOk Wg) (h1 : ∀ v t d, Dn (v.re t d) → Dn v) (h2 : ∀ v n, Flat Try.prog v → Dn v → Dn (v.upto n)) (h3 : ∀ v t d, Dn v → Dn (v.re t d))
    (hF : Flat Try.prog v) (hW : WK bw bs bl Wg c A l cap v) (hD : Dn v) : KW Wg c Dn (says l) (born Try.prog (call36 bw bs bl)) v := by
  have hK := kw_ok (Wg := Wg) (c := c) h1 h2 (says l)
  refine KA.out (kstep hK hF rfl (born_step bw bs bl) ?_)
  have hwg := hW.wg
  have hsrc := hW.src
  have hlst := hW.lst
  have hl := worker_loop (bw := bw) (bs := bs) (bl := bl) (c := c) (cap := cap) hDone h1 h2 h3 hF hW hD l.length 0 (by omega)
  rw [List.drop_zero] at hl
  simp only [L36, body36, Try.f36, Option.getD_some, T36] at hl ⊢
  refine kSeq hK hF (kRegion hK hF ?_)
  refine kOp closedS.bodies hK hF (val := .pointer (some ⟨Wg, 0, none⟩)) (by k_ne) rfl rfl (by kernel_rfl) (fun v₁ hv => by have := cell_up hv hwg; go_simp) ?_
  walk_nrm
  refine kstep hK hF rfl (fun w => stepG_defer rfl rfl (by k_ne) rfl) ?_
  walk_nrm
  refine kRegEnd hK hF (kSeq hK hF (kRegion hK hF ?_))
  refine kOp closedS.bodies hK hF (val := .chan (some c)) (by k_ne) rfl rfl (by kernel_rfl) (fun v₁ hv => by have := cell_up hv hsrc; go_simp) ?_
  walk_nrm
  refine kstep hK hF rfl (fun w => stepG_deferB (by k_ne) rfl rfl (bi := .close) rfl) ?_
  walk_nrm
  refine kRegEnd hK hF (kSeq hK hF (kRegion hK hF ?_))
  refine kOp closedS.bodies hK hF (val := .slice A l.length cap) (by k_ne) rfl rfl (by kernel_rfl) (fun v₁ hv => by have := cell_up hv hlst; go_simp) ?_
  walk_nrm
  refine kOp closedS.bodies hK hF (val := .int .i64 l.length) (by k_ne) rfl rfl (by kernel_rfl) (fun v₁ hv => by go_simp) ?_
  walk_nrm
  refine kOp closedS.bodies hK hF (val := .int .i64 (0 : Nat)) (by k_ne) rfl rfl (by kernel_rfl) (fun v₁ hv => by go_simp) ?_
  walk_nrm
  refine kRegEnd hK hF (kBlock hK hF (kLoop hK hF ?_))
  exact hl _ _ _ _ _ _ _ _ _ _
end
end Go.Proofs.Ytoimhdhplebhgaa
