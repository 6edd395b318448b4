/-
  A guest says a word: all others on its bridge hear it.
-/
import Derived.Test.YthmgpkcijolljaaHKMt
namespace Go.Proofs.Ythmgpkcijolljaa
open Go.Conc Go.RowKit Go.Conc.Lib
open Go.ConcN (upd upd_same upd_ne)
open Go.ChangeMaps
set_option linter.unusedSimpArgs false
set_option linter.unusedVariables false
section
variable {P : Program} {main gr st : Bool} {Live : World → Prop} {K : Goroutine → World → Prop} {v : World} {b : Frame} {a : Act} {cs : List Frame} {fn : Func} {todo : List Item} {b₀ : Frame} {a₀ : Act} {ops : Array Oper} {i : Nat} {rest : List Nat} {k : List Item}
theorem kLeave0 (hK : KOk P main gr st Live K) (hF : Flat P v) (hn : b.kind = .normal) (hd : a.defers = []) (hf : P.funcs[b.fn]? = some fn) (hr : fn.results = #[])
  (h : KA K (G (b₀.at (a₀.put ((ops[i]?).bind (·.dst)) (.tuple #[])) (.inRegion ops rest :: k)) cs) v) : KA K (G { b.at a todo with mode := .returning } (b₀.at a₀ (.inRegion ops (i :: rest) :: k) :: cs)) v :=
 kstep hK hF rfl (fun w => by rw [stepG_leave hn hd hf (results_none hr _ P w) (by simp [results, hr]), Frame.finish_at]) h
end
/-- What is in view of the workers: they are to hear f. -/
structure Vw (γ : View) (k : Nat) (C : Nat → Nat) (B0 : Nat) (f F : Nat → List Int) : Prop where
 j : γ.j = k
 owed : γ.owed = 0
 c : ∀ i, i < k → γ.c i = C i
 shut : ∀ i, i < k → γ.shut i = false
 say : ∀ i, i < k → γ.σ i = hears (f (i + 1))
 dn : ∀ i, i < k → γ.dn i = HeardD B0 (F (i + 1))
theorem Vw.tell {γ : View} {k : Nat} {C : Nat → Nat} {B0 : Nat} {f F : Nat → List Int} (h : Vw γ k C B0 f F) {i : Nat} (hi : i < k) (l : List Int) : Vw { γ with σ := upd γ.σ i (hears l) } k C B0 (upd f (i + 1) l) F := by
 refine ⟨h.j, h.owed, h.c, h.shut, fun q hq => ?_, h.dn⟩
 show upd γ.σ i (hears l) q = _
 by_cases e : q = i
 ·subst e; rw [upd_same, upd_same]
 ·rw [upd_ne _ _ e, upd_ne _ _ (by omega)]; exact h.say q hq
theorem Vw.congr {γ : View} {k : Nat} {C : Nat → Nat} {B0 : Nat} {f f' F : Nat → List Int} (h : Vw γ k C B0 f F) (e : ∀ i, i < k → f (i + 1) = f' (i + 1)) : Vw γ k C B0 f' F := ⟨h.j, h.owed, h.c, h.shut, fun i hi => by rw [h.say i hi, e i hi], h.dn⟩
/-- It sends a worker the word that it is to hear. -/
theorem kn_say {Wg n : Nat} {Base : BsP} {Post : Value → World → Prop} {γ : View} {v : World} {b : Frame} {a : Act} {k : List Item} {cs : List Frame} {ops : Array Oper} {i : Nat} {rest : List Nat} {o : Oper} {x y : Operand} {w : Nat} {z : Int} {l : List Int}
  (ho : ops[i]? = some o) (hw : Region.wanted o (yielded ops a.tmps) = true) (hk : b.kind ≠ .early) (hop : o.op = .send x y) (hx : a.eval x = .chan (some (γ.c w))) (hy : a.eval y = .int .i64 z) (hkw : w < γ.j) (hσ : γ.σ w = hears (z :: l))
  (h : KA (MNext Try.prog 84 Wg false Base Post n { γ with σ := upd γ.σ w (hears l) }) (G (b.at (a.put o.dst undef) (.inRegion ops rest :: k)) cs) v) :
  KA (MNext Try.prog 84 Wg false Base Post (n + 1) γ) (G (b.at a (.inRegion ops (i :: rest) :: k)) cs) v := by
 have hc : Comm Try.prog true (G (b.at a (.inRegion ops (i :: rest) :: k)) cs) (G (b.at a (.inRegion ops (i :: rest) :: k)) cs) #[scase (γ.c w) (.int .i64 z) (.tuple #[])] .send :=
  comm_at ho hw hk (fun W => by unfold execOp; simp only [hop, hx, hy]; simp [scase, go_sem]) (fun W => by unfold execOp; simp only [hop, hx, hy]; simp [go_sem])
 refine kn_tell hkw (x := .int .i64 z) (l := hears l) hσ hc ?_
 rw [(after_at ho).1]
 exact h
theorem run_look {w : World} {b : Nat} (h : mcm w b = true) (r : Option Nat) : (Instr.lookup 60 (.map (some b)) (.chan r) false).run Try.prog w = .ok ((mget w b r).getD (.slice none 0 0)) w := by
 obtain ⟨i, hi, hz0, hz1, hz2⟩ := info_parts ints_info
 have hz : (zeroValue 32).run Try.prog w = .ok (.slice none 0 0) w := by simp [zeroValue, hi, hz0]; rfl
 rw [run_lookup_ch Try.underlying60 Try.underlying68 hz h]
 cases mget w b r <;> rfl
@[go_sem] theorem run_put {w : World} {b : Nat} (h : mcm w b = true) (r : Option Nat) (v : Value) : (Instr.mapUpdate 60 (.map (some b)) (.chan r) v).run Try.prog w = .ok () (mput w b r v) :=
 run_mapUpdate_ch Try.underlying60 Try.underlying68 h r v
@[go_sem] theorem neq_ch (x y : Option Nat) (w : World) : (binOp .neq 68 (.chan x) (.chan y)).run Try.prog w = .ok (.bool (!(x == y))) w := run_neq_ch Try.underlying68 x y w
def rowI (l : List Nat) : List Int := l.map fun q : Nat => (q : Int)
theorem rowI_length (l : List Nat) : (rowI l).length = l.length := by simp [rowI]
section
variable {v0 u : World} {A : Ad} {k : Nat} {C : Nat → Nat} {on : Nat → Nat} {L : Nat → List Int} {X : Nat → Value}
theorem Mt.cell (h : Mt v0 A k C on L X u) (j : Nat) : u.cell? ⟨A.GA, j, none⟩ = (gatC (A.n + 1) A.B A.N A.On A.Gm A.Ow A.H (X 0))[j]? := by simp [World.cell?, h.gat]
theorem Mt.onCell (h : Mt v0 A k C on L X u) {g : Nat} (hg : g ≤ A.n) : u.cell? ⟨A.On, g, none⟩ = some (.chan (A.ch (on g))) := (h.onb.cell g).trans (onArr_get A on g hg)
theorem Mt.owCell (h : Mt v0 A k C on L X u) {i : Nat} (hi : i < k) (hn : i < A.n) : u.cell? ⟨A.Ow, i + 1, none⟩ = some (.chan (some (C i))) := (h.owb.cell _).trans (by rw [owArr_get A C k (i + 1) (by omega), if_pos (by omega)]; rfl)
theorem Mt.bgCell (h : Mt v0 A k C on L X u) : u.cell? ⟨A.bg, 0, none⟩ = some (.pointer (some ⟨A.GA, 0, none⟩)) := by
 obtain ⟨f, hf, _⟩ := h.bg
 simp [World.cell?, hf]
end
noncomputable def body52 : Code := Try.f52.body.getD .skip
noncomputable def E52 : Code := match body52 with | .seq _ (.seq _ c) => c | _ => .skip
noncomputable def L52 : Code := match body52 with | .seq _ (.seq (.seq _ (.seq _ (.cond _ (.seq _ (.block _ (.loop c))) _))) _) => c | _ => .skip
section
variable {Base : BsP} {Post : Value → World → Prop} {Wg : Nat} {v0 u : World} {A : Ad} {C : Nat → Nat} {on : Nat → Nat} {L : Nat → List Int} {X : Nat → Value} {g : Nat} {w : Int} {f F : Nat → List Int}
set_option maxRecDepth 100000 in
set_option maxHeartbeats 1000000 in
/-- The others of the row, one by one. -/
theorem say_loop {l : List Nat} {Ab : Option Addr} {cb N : Nat} {cs : List Frame} (hM : Mt v0 A A.n C on L X u) (hR : RI u u.heap.size Ab (rowI l)) (hl : ∀ q ∈ l, 1 ≤ q ∧ q ≤ A.n) (hnd : l.Nodup) (hlen : l.length ≤ 1000)
  (h : ∀ γ (m : Nat), Vw γ A.n C A.R f F → (m = 0 ↔ (l.filter (· != g)) = []) → ∀ x3 x4 x5 x7 x8 x9 x10 x11 x12 x13 x14 x15 x16 x17 x18 x19 x20 x21 x22 x23 x24 x25 x26 x27 x28 x29 x30 x31 x32 x33 x34 x35 x36 x37 x38 x39 x40 x41 x42 x43 x44 x45 x46 x47 x48 x49 x50 x51 x52 x53 x54 x55, KA (MNext Try.prog 84 Wg false Base Post (N + 1) γ) (G ((Conc.base 52).at ⟨#[.pointer (some ⟨A.GA, 0, none⟩), .int .i64 g, .int .i64 w, x3, x4, x5, .int .i64 m, x7, x8, x9, x10, x11, x12, x13, x14, x15, x16, x17, x18, x19, x20, x21, x22, x23, x24, x25, x26, x27, x28, x29, x30, x31, x32, x33, x34, x35, x36, x37, x38, x39, x40, x41, x42, x43, x44, x45, x46, x47, x48, x49, x50, x51, x52, x53, x54, x55], []⟩ [.code E52]) cs) u) :
  ∀ (r : List Nat) (p : Nat), p + r.length = l.length → r = l.drop p → ∀ (γ : View) (m : Nat), Vw γ A.n C A.R (fun q => if q ∈ r.filter (· != g) then w :: f q else f q) F → (m = 0 ↔ (l.take p).filter (· != g) = []) → m ≤ p →
   ∀ x3 x4 x5 x7 x8 x9 x10 x11 x12 x13 x14 x15 x16 x17 x18 x19 x20 x21 x22 x23 x27 x28 x29 x30 x31 x32 x33 x34 x35 x36 x37 x38 x39 x40 x41 x42 x43 x44 x45 x46 x47 x48 x49 x50 x51 x52 x53 x54 x55, KA (MNext Try.prog 84 Wg false Base Post ((r.filter (· != g)).length + N + 1) γ) (G ((Conc.base 52).at ⟨#[.pointer (some ⟨A.GA, 0, none⟩), .int .i64 g, .int .i64 w, x3, x4, x5, .int .i64 m, x7, x8, x9, x10, x11, x12, x13, x14, x15, x16, x17, x18, x19, x20, x21, x22, x23, .slice Ab l.length cb, .int .i64 l.length, .int .i64 p, x27, x28, x29, x30, x31, x32, x33, x34, x35, x36, x37, x38, x39, x40, x41, x42, x43, x44, x45, x46, x47, x48, x49, x50, x51, x52, x53, x54, x55], []⟩ [.code L52, .inLoop L52, .inBlock 0, .code E52]) cs) u := by
 intro r
 have hF := hM.flat
 have c4 := hM.cell 4
 simp [gatC] at c4
 induction r with
 | nil =>
  intro p hp hr γ m hV hm hmp x3 x4 x5 x7 x8 x9 x10 x11 x12 x13 x14 x15 x16 x17 x18 x19 x20 x21 x22 x23 x27 x28 x29 x30 x31 x32 x33 x34 x35 x36 x37 x38 x39 x40 x41 x42 x43 x44 x45 x46 x47 x48 x49 x50 x51 x52 x53 x54 x55
  obtain rfl : p = l.length := by simpa using hp
  have hnl : ¬ ((l.length : Int) < (l.length : Int)) := by omega
  have hfin := h γ m (hV.congr fun i _ => by simp) (by simpa using hm)
  simp only [List.filter_nil, List.length_nil, Nat.zero_add]
  have hK := kn_ok (P := Try.prog) (ty := 84) (Wg := Wg) (Base := Base) (Post := Post) N γ
  simp only [L52, E52, body52, Try.f52, Option.getD_some] at hfin ⊢
  refine kSeq hK hF (kRegion hK hF ?_)
  refine kOp closedS.bodies hK hF (val := .bool false) (by k_ne) rfl rfl (by kernel_rfl) (fun v₁ hv => by go_simp; try simp [hnl]) ?_
  walk_nrm
  refine kRegEnd hK hF (kSeq hK hF (kCond hK hF (t := false) (by rfl) ?_))
  simp only [Bool.false_eq_true, if_false]
  refine kExit hK hF (k' := _) (by rfl) ?_
  exact hfin _ _ _ _ _ _ _ _ _ _ _ _ _ _ _ _ _ _ _ _ _ _ _ _ _ _ _ _ _ _ _ _ _ _ _ _ _ _ _ _ _ _ _ _ _ _ _ _ _ _ _ _
 | cons q r ih =>
  intro p hp hr γ m hV hm hmp x3 x4 x5 x7 x8 x9 x10 x11 x12 x13 x14 x15 x16 x17 x18 x19 x20 x21 x22 x23 x27 x28 x29 x30 x31 x32 x33 x34 x35 x36 x37 x38 x39 x40 x41 x42 x43 x44 x45 x46 x47 x48 x49 x50 x51 x52 x53 x54 x55
  have hpl : p < l.length := by simp at hp; omega
  have hq : l[p] = q := by
   have h1 : (l.drop p)[0]? = some q := by rw [← hr]; rfl
   rw [List.getElem?_drop] at h1
   simpa [List.getElem?_eq_getElem hpl] using h1
  obtain ⟨q1, qn⟩ := hl q (by rw [← hq]; exact List.getElem_mem _)
  have hr' : r = l.drop (p + 1) := by
   rw [List.drop_eq_getElem_cons hpl] at hr
   exact (List.cons.inj hr).2
  have htk : l.take (p + 1) = l.take p ++ [q] := by rw [List.take_add_one, List.getElem?_eq_getElem hpl, hq]; rfl
  have hqr : q ∉ r := fun hm' => by
   have h1 := List.Pairwise.sublist (List.drop_sublist p l) hnd
   rw [← hr] at h1
   exact (List.nodup_cons.1 h1).1 hm'
  have ih' := ih (p + 1) (by simp at hp; omega) hr'
  rw [htk] at ih'
  have hlt : (p : Int) < (l.length : Int) := by omega
  have hpr : p < (rowI l).length := by rw [rowI_length]; exact hpl
  obtain ⟨ad, rfl, hab, hc⟩ := hR.at_ hpr
  have hcq : u.cell? (ad.add p) = some (.int .i64 q) := by rw [hc]; simp [rowI, hq]
  have hcow := hM.owCell (i := q - 1) (by omega) (by omega)
  rw [show q - 1 + 1 = q by omega] at hcow
  have hi64 : IntKind.i64.wrap ((p : Int) + 1) = ((p + 1 : Nat) : Int) := by rw [IntKind.wrap_i64]; omega
  have hm64 : IntKind.i64.wrap ((m : Int) + 1) = ((m + 1 : Nat) : Int) := by rw [IntKind.wrap_i64]; omega
  clear h ih hR hc hM
  simp only [L52, E52, body52, Try.f52, Option.getD_some] at ih' ⊢
  rcases hK0 : (q != g) with _ | _
  ·-- the guest itself
   have hqg : q = g := by simpa using hK0
   have e1 : (q :: r).filter (· != g) = r.filter (· != g) := by rw [List.filter_cons, hK0]; rfl
   rw [e1] at hV ⊢
   have hK := kn_ok (P := Try.prog) (ty := 84) (Wg := Wg) (Base := Base) (Post := Post) ((r.filter (· != g)).length + N) γ
   refine kSeq hK hF (kRegion hK hF ?_)
   refine kOp closedS.bodies hK hF (val := .bool true) (by k_ne) rfl rfl (by kernel_rfl) (fun v₁ hv => by go_simp; try simp [hlt]) ?_
   walk_nrm
   refine kRegEnd hK hF (kSeq hK hF (kCond hK hF (t := true) (by rfl) ?_))
   simp only [if_true]
   refine kSkip hK hF (kSeq hK hF (kBlock hK hF (kSeq hK hF ?_)))
   refine kLiftS closedS hK hF (by kernel_rfl) (by k_ne) fun t1 => ?_
   have hcq' : (u.re t1 0).cell? (ad.add p) = some (.int .i64 q) := hcq
   generalize hQ : Behind _ _ _ _ _ = Q
   go_wp2
   subst hQ
   refine ⟨rfl, fun _ _ => KA.re ?_⟩
   clear hcq'
   refine kSeq hK hF ?_
   refine kLiftS closedS hK hF (by kernel_rfl) (by k_ne) fun t1 => ?_
   generalize hQ : Behind _ _ _ _ _ = Q
   go_wp2
   subst hQ
   refine ⟨rfl, fun _ _ => KA.re ?_⟩
   refine kCond hK hF (t := false) (by rfl) ?_
   simp only [Bool.false_eq_true, if_false]
   refine kSkip hK hF (kInBlock hK hF (kRegion hK hF ?_))
   refine kOp closedS.bodies hK hF (val := .int .i64 ((p + 1 : Nat) : Int)) (by k_ne) rfl rfl (by kernel_rfl) (fun v₁ hv => by go_simp; try simp [hi64]) ?_
   walk_nrm
   refine kOp closedS.bodies hK hF (val := .int .i64 ((p + 1 : Nat) : Int)) (by k_ne) rfl rfl (by kernel_rfl) (fun v₁ hv => by go_simp <;> rfl) ?_
   walk_nrm
   refine kRegEnd hK hF (kInLoop hK hF ?_)
   exact ih' γ m hV (by rw [List.filter_append, List.filter_cons, hK0]; simpa using hm) (by omega) _ _ _ _ _ _ _ _ _ _ _ _ _ _ _ _ _ _ _ _ _ _ _ _ _ _ _ _ _ _ _ _ _ _ _ _ _ _ _ _ _ _ _ _ _ _ _ _ _
  ·-- another
   have e1 : (q :: r).filter (· != g) = q :: r.filter (· != g) := by rw [List.filter_cons, hK0]; rfl
   rw [e1] at hV ⊢
   have hqg : ¬ ((q : Int) = (g : Int)) := by
    intro e
    have e' : q = g := by omega
    simp [e'] at hK0
   have hnq : ¬ q = g := fun e => hqg (by rw [e])
   rw [List.length_cons, show (r.filter (· != g)).length + 1 + N + 1 = (r.filter (· != g)).length + N + 1 + 1 by omega]
   have hK := kn_ok (P := Try.prog) (ty := 84) (Wg := Wg) (Base := Base) (Post := Post) ((r.filter (· != g)).length + N + 1) γ
   refine kSeq hK hF (kRegion hK hF ?_)
   refine kOp closedS.bodies hK hF (val := .bool true) (by k_ne) rfl rfl (by kernel_rfl) (fun v₁ hv => by go_simp; try simp [hlt]) ?_
   walk_nrm
   refine kRegEnd hK hF (kSeq hK hF (kCond hK hF (t := true) (by rfl) ?_))
   simp only [if_true]
   refine kSkip hK hF (kSeq hK hF (kBlock hK hF (kSeq hK hF ?_)))
   refine kLiftS closedS hK hF (by kernel_rfl) (by k_ne) fun t1 => ?_
   have hcq' : (u.re t1 0).cell? (ad.add p) = some (.int .i64 q) := hcq
   generalize hQ : Behind _ _ _ _ _ = Q
   go_wp2
   subst hQ
   refine ⟨rfl, fun _ _ => KA.re ?_⟩
   clear hcq'
   refine kSeq hK hF ?_
   refine kLiftS closedS hK hF (by kernel_rfl) (by k_ne) fun t1 => ?_
   generalize hQ : Behind _ _ _ _ _ = Q
   go_wp2
   subst hQ
   refine ⟨rfl, fun _ _ => KA.re ?_⟩
   have hne : ((q : Int) != (g : Int)) = true := by simpa using hqg
   have hb1 : (q : Int) < (A.n : Int) + 1 := by omega
   refine kCond hK hF (t := true) (congrArg Value.bool hne) ?_
   simp only [if_true]
   refine kSeq hK hF (kRegion hK hF ?_)
   refine kOp closedS.bodies hK hF (val := .pointer (some ⟨A.GA, 0, none⟩)) (by k_ne) rfl rfl (by kernel_rfl) (fun v₁ hv => by go_simp <;> rfl) ?_
   walk_nrm
   refine kOp closedS.bodies hK hF (val := .pointer (some ⟨A.GA, 0, none⟩)) (by k_ne) rfl rfl (by kernel_rfl) (fun v₁ hv => by go_simp <;> rfl) ?_
   walk_nrm
   refine kOp closedS.bodies hK hF (val := .pointer (some ⟨A.GA, 4, none⟩)) (by k_ne) rfl rfl (by kernel_rfl) (fun v₁ hv => by go_simp <;> rfl) ?_
   walk_nrm
   refine kOp closedS.bodies hK hF (val := .slice (some ⟨A.Ow, 0, none⟩) (A.n + 1) (A.n + 1)) (by k_ne) rfl rfl (by kernel_rfl) (fun v₁ hv => by have := cell_up hv c4; go_simp <;> rfl) ?_
   walk_nrm
   refine kOp closedS.bodies hK hF (val := .int .i64 q) (by k_ne) rfl rfl (by kernel_rfl) (fun v₁ hv => by go_simp <;> rfl) ?_
   walk_nrm
   refine kOp closedS.bodies hK hF (val := .pointer (some ⟨A.Ow, q, none⟩)) (by k_ne) rfl rfl (by kernel_rfl) (fun v₁ hv => by go_simp <;> rfl) ?_
   walk_nrm
   refine kOp closedS.bodies hK hF (val := .chan (some (C (q - 1)))) (by k_ne) rfl rfl (by kernel_rfl) (fun v₁ hv => by have := cell_up hv hcow; go_simp <;> rfl) ?_
   walk_nrm
   refine kOp closedS.bodies hK hF (val := .int .i64 w) (by k_ne) rfl rfl (by kernel_rfl) (fun v₁ hv => by go_simp <;> rfl) ?_
   walk_nrm
   have hj : q - 1 < A.n := by omega
   have hcc := hV.c (q - 1) hj
   have hσ : γ.σ (q - 1) = hears (w :: f q) := by rw [hV.say (q - 1) hj, show q - 1 + 1 = q by omega, if_pos (List.mem_cons_self ..)]
   have hV2 : Vw { γ with σ := upd γ.σ (q - 1) (hears (f q)) } A.n C A.R (fun x => if x ∈ r.filter (· != g) then w :: f x else f x) F := by
    refine (hV.tell hj (f q)).congr fun i hi => ?_
    rw [show q - 1 + 1 = q by omega]
    by_cases e : i + 1 = q
    ·rw [e, upd_same, if_neg (fun hm' => hqr (List.mem_filter.1 hm').1)]
    ·rw [upd_ne _ _ e]
     simp only [List.mem_cons, e, false_or]
   refine kn_say (w := q - 1) (l := f q) rfl rfl (by k_ne) rfl (by rw [hcc]; rfl) rfl (by rw [hV.j]; exact hj) hσ ?_
   walk_nrm
   have hK2 := kn_ok (P := Try.prog) (ty := 84) (Wg := Wg) (Base := Base) (Post := Post) ((r.filter (· != g)).length + N) { γ with σ := upd γ.σ (q - 1) (hears (f q)) }
   refine kRegEnd hK2 hF (kRegion hK2 hF ?_)
   refine kOp closedS.bodies hK2 hF (val := .int .i64 m) (by k_ne) rfl rfl (by kernel_rfl) (fun v₁ hv => by go_simp <;> rfl) ?_
   walk_nrm
   refine kOp closedS.bodies hK2 hF (val := .int .i64 ((m + 1 : Nat) : Int)) (by k_ne) rfl rfl (by kernel_rfl) (fun v₁ hv => by go_simp; try simp [hm64]) ?_
   walk_nrm
   refine kOp closedS.bodies hK2 hF (val := .int .i64 ((m + 1 : Nat) : Int)) (by k_ne) rfl rfl (by kernel_rfl) (fun v₁ hv => by go_simp <;> rfl) ?_
   walk_nrm
   refine kRegEnd hK2 hF (kInBlock hK2 hF (kRegion hK2 hF ?_))
   refine kOp closedS.bodies hK2 hF (val := .int .i64 ((p + 1 : Nat) : Int)) (by k_ne) rfl rfl (by kernel_rfl) (fun v₁ hv => by go_simp; try simp [hi64]) ?_
   walk_nrm
   refine kOp closedS.bodies hK2 hF (val := .int .i64 ((p + 1 : Nat) : Int)) (by k_ne) rfl rfl (by kernel_rfl) (fun v₁ hv => by go_simp <;> rfl) ?_
   walk_nrm
   refine kRegEnd hK2 hF (kInLoop hK2 hF ?_)
   exact ih' _ (m + 1) hV2 (by rw [List.filter_append, List.filter_cons, hK0]; simp) (by omega) _ _ _ _ _ _ _ _ _ _ _ _ _ _ _ _ _ _ _ _ _ _ _ _ _ _ _ _ _ _ _ _ _ _ _ _ _ _ _ _ _ _ _ _ _ _ _ _ _
end
end Go.Proofs.Ythmgpkcijolljaa
/-
  A guest says a word: the call.
-/
namespace Go.Proofs.Ythmgpkcijolljaa
open Go.Conc Go.RowKit Go.Conc.Lib
open Go.ConcN (upd upd_same upd_ne)
open Go.ChangeMaps
set_option linter.unusedSimpArgs false
set_option linter.unusedVariables false
section
variable {v0 u u2 u3 : World} {A : Ad} {k : Nat} {C : Nat → Nat} {on : Nat → Nat} {L : Nat → List Int} {X : Nat → Value} {b : Nat} {x' : Value} {l' : List Int}
theorem RowCh.up (h : RowCh u u2 A X b x' l') (hF : Flat Try.prog u3) (hU : Ups u2 u3) : RowCh u u3 A X b x' l' :=
 ⟨hF, Nat.le_trans h.size hU.size, fun q hq hne => (hU.get q (by have := h.size; omega)).trans (h.get q hq hne), hU.own h.row, h.loc⟩
theorem RowCh.gat (h : RowCh u u2 A X b x' l') (hM : Mt v0 A k C on L X u) (hb : b ≤ 9) : u2.heap[A.GA]? = some (.cells (gatC (A.n + 1) A.B A.N A.On A.Gm A.Ow A.H (X 0)) 62 (0, 6)) :=
 (h.get _ (Array.getElem?_eq_some_iff.1 hM.gat).1 (fun e => hM.row_ne hb e (mem_all (by simp)))).trans hM.gat
end
section
variable {Base : BsP} {Post : Value → World → Prop} {Wg : Nat} {v0 u : World} {A : Ad} {C : Nat → Nat} {on : Nat → Nat} {L : Nat → List Int} {X : Nat → Value} {g : Nat} {w : Int} {f F : Nat → List Int}
/-- what is said alone, once it is said -/
def alUp (L : Nat → List Int) (none : Bool) (w : Int) : Nat → List Int := if none then upd L 0 (L 0 ++ [w]) else L
set_option maxRecDepth 100000 in
set_option maxHeartbeats 1000000 in
theorem say_end {N m : Nat} {γ : View} {b : Frame} {a : Act} {ks : List Item} {cs : List Frame} {ops : Array Oper} {i : Nat} {rest : List Nat} {dst : Option Tmp} (hdst : (ops[i]?).bind (·.dst) = dst) (hM : Mt v0 A A.n C on L X u) (hA : AdOk A) (hlen : (L 0).length ≤ 1000)
  (h : ∀ u' X', Mt v0 A A.n C on (alUp L (m == 0) w) X' u' → KA (MNext Try.prog 84 Wg false Base Post (N + 1) γ) (G (b.at (a.put dst (.tuple #[])) (.inRegion ops rest :: ks)) cs) u') :
  ∀ x3 x4 x5 x7 x8 x9 x10 x11 x12 x13 x14 x15 x16 x17 x18 x19 x20 x21 x22 x23 x24 x25 x26 x27 x28 x29 x30 x31 x32 x33 x34 x35 x36 x37 x38 x39 x40 x41 x42 x43 x44 x45 x46 x47 x48 x49 x50 x51 x52 x53 x54 x55, KA (MNext Try.prog 84 Wg false Base Post (N + 1) γ) (G ((Conc.base 52).at ⟨#[.pointer (some ⟨A.GA, 0, none⟩), .int .i64 g, .int .i64 w, x3, x4, x5, .int .i64 m, x7, x8, x9, x10, x11, x12, x13, x14, x15, x16, x17, x18, x19, x20, x21, x22, x23, x24, x25, x26, x27, x28, x29, x30, x31, x32, x33, x34, x35, x36, x37, x38, x39, x40, x41, x42, x43, x44, x45, x46, x47, x48, x49, x50, x51, x52, x53, x54, x55], []⟩ [.code E52]) (b.at a (.inRegion ops (i :: rest) :: ks) :: cs)) u := by
 intro x3 x4 x5 x7 x8 x9 x10 x11 x12 x13 x14 x15 x16 x17 x18 x19 x20 x21 x22 x23 x24 x25 x26 x27 x28 x29 x30 x31 x32 x33 x34 x35 x36 x37 x38 x39 x40 x41 x42 x43 x44 x45 x46 x47 x48 x49 x50 x51 x52 x53 x54 x55
 have hF := hM.flat
 have hK := kn_ok (P := Try.prog) (ty := 84) (Wg := Wg) (Base := Base) (Post := Post) N γ
 have c6 := hM.cell 6
 simp [gatC] at c6
 simp only [E52, body52, Try.f52, Option.getD_some]
 refine kSeq hK hF (kRegion hK hF ?_)
 refine kOp closedS.bodies hK hF (val := .int .i64 m) (by k_ne) rfl rfl (by kernel_rfl) (fun v₁ hv => by go_simp <;> rfl) ?_
 walk_nrm
 refine kOp closedS.bodies hK hF (val := .bool ((m : Int) == 0)) (by k_ne) rfl rfl (by kernel_rfl) (fun v₁ hv => by go_simp <;> rfl) ?_
 walk_nrm
 refine kRegEnd hK hF ?_
 have em : ((m : Int) == 0) = (m == 0) := by cases m <;> rfl
 rw [em]
 cases hm : (m == 0) with
 | false =>
  refine kCond hK hF (t := false) (by rfl) ?_
  simp only [Bool.false_eq_true, if_false]
  refine kSkip hK hF (kEnd hK hF ?_)
  refine kLeave0 hK hF rfl rfl Try.func52 rfl ?_
  rw [hdst]
  rw [hm] at h
  exact h u X hM
 | true =>
  rw [hm] at h
  refine kCond hK hF (t := true) (by rfl) ?_
  simp only [if_true]
  refine kRegion hK hF ?_
  refine kOp closedS.bodies hK hF (val := .pointer (some ⟨A.GA, 0, none⟩)) (by k_ne) rfl rfl (by kernel_rfl) (fun v₁ hv => by go_simp <;> rfl) ?_
  walk_nrm
  refine kOp closedS.bodies hK hF (val := .pointer (some ⟨A.GA, 0, none⟩)) (by k_ne) rfl rfl (by kernel_rfl) (fun v₁ hv => by go_simp <;> rfl) ?_
  walk_nrm
  refine kOp closedS.bodies hK hF (val := .pointer (some ⟨A.GA, 0, none⟩)) (by k_ne) rfl rfl (by kernel_rfl) (fun v₁ hv => by go_simp <;> rfl) ?_
  walk_nrm
  refine kOp closedS.bodies hK hF (val := .pointer (some ⟨A.GA, 6, none⟩)) (by k_ne) rfl rfl (by kernel_rfl) (fun v₁ hv => by go_simp <;> rfl) ?_
  walk_nrm
  refine kOp closedS.bodies hK hF (val := X 0) (by k_ne) rfl rfl (by kernel_rfl) (fun v₁ hv => by have := cell_up hv c6; go_simp <;> rfl) ?_
  walk_nrm
  refine kOp closedS.bodies hK hF (val := .int .i64 w) (by k_ne) rfl rfl (by kernel_rfl) (fun v₁ hv => by go_simp <;> rfl) ?_
  walk_nrm
  refine kBuild1 hK hF (by k_ne) rfl rfl rfl (y := w) rfl fun u1 p hF1 hU1 hp hc1 => ?_
  walk_nrm
  have hrow := hM.row 0 (by omega)
  refine kAppend1 hK hF1 (by k_ne) rfl rfl rfl (hv := X 0) (l := L 0) (ad := ⟨p, 0, none⟩) (y := w) rfl rfl (own_mono (hU1.own hrow) (Nat.zero_le _)) hc1 (by omega) fun u2 x' hF2 hs2 hg2 hr2 hl2 => ?_
  walk_nrm
  have hlo := (hrow.lt · ·)
  have hRC : RowCh u u2 A X 0 x' (L 0 ++ [w]) := by
   refine ⟨hF2, Nat.le_trans hU1.size hs2, fun q hq hne => (hg2 q (by have := hU1.size; omega) hne).trans (hU1.get q hq), own_base hr2 fun q hq => ?_, ?_⟩
   ·rcases hl2 with e | ⟨q', h3, e⟩
    ·exact (hrow.lt q (e ▸ hq)).1
    ·rw [e] at hq
     obtain rfl := Option.some.inj hq
     have := hM.old.size
     have := hM.rb.2
     have := hU1.size
     omega
   ·rcases hl2 with e | ⟨q', h3, e⟩
    ·exact .inl e
    ·exact .inr ⟨q', Nat.le_trans hU1.size h3, e⟩
  have hg6 := hRC.gat hM (by omega)
  have d6 : u2.cell? ⟨A.GA, 6, none⟩ = some (X 0) := by simp [World.cell?, hg6, gatC]
  have f6 : u2.frozen? ⟨A.GA, 6, none⟩ = false := by simp [World.frozen?, hg6]
  refine kOp closedS.bodies hK hF2 (val := .pointer (some ⟨A.GA, 0, none⟩)) (by k_ne) rfl rfl (by kernel_rfl) (fun v₁ hv => by go_simp <;> rfl) ?_
  walk_nrm
  refine kOp closedS.bodies hK hF2 (val := .pointer (some ⟨A.GA, 6, none⟩)) (by k_ne) rfl rfl (by kernel_rfl) (fun v₁ hv => by go_simp <;> rfl) ?_
  walk_nrm
  obtain ⟨Ax, cx, hxe⟩ := own_form hr2
  refine kOpX closedS.bodies hK hF2 (by k_ne) rfl rfl (by kernel_rfl) fun n hn _ t e => ⟨.skip, undef, ((u2.upto n).re t e).setCell ⟨A.GA, 6, none⟩ x', .inr ⟨rfl, rfl⟩, ?_, (fun h => by cases h), fun hF' _ => ?_⟩
  ·have k6 : ((u2.upto n).re t e).cell? ⟨A.GA, 6, none⟩ = some (X 0) := ((Ups.upto u2 n).re t e).cell d6
   have g6 : ((u2.upto n).re t e).frozen? ⟨A.GA, 6, none⟩ = false := by
    have hh : ((u2.upto n).re t e).heap[A.GA]? = u2.heap[A.GA]? := ((Ups.upto u2 n).re t e).get _ (Array.getElem?_eq_some_iff.1 hg6).1
    rw [World.frozen?_of_block hh]; exact f6
   subst hxe
   unfold execOp
   go_simp
  ·have hFu : Flat Try.prog ((u2.upto n).re t e) := ⟨(hF2.upto n).room, (hF2.upto n).obj, (hF2.upto n).low⟩
   have hM' := hM.alSet hA (hRC.up hFu ((Ups.upto u2 n).re t e)) hF'
   have hF3 := hM'.flat
   walk_nrm
   refine kRegEnd hK hF3 (kEnd hK hF3 ?_)
   refine kLeave0 hK hF3 rfl rfl Try.func52 rfl ?_
   rw [hdst]
   exact h _ _ hM'
set_option maxRecDepth 100000 in
set_option maxHeartbeats 1000000 in
/-- ████ say ████ -/
theorem say_call {N : Nat} {γ : View} {rows : Nat → List Nat} {b : Frame} {a : Act} {ks : List Item} {cs : List Frame} {ops : Array Oper} {i : Nat} {rest : List Nat} {o : Oper} {x y z : Operand} {ats : Array TypeId}
  (ho : ops[i]? = some o) (hw : Region.wanted o (yielded ops a.tmps) = true) (hk : b.kind ≠ .early) (hop : o.op = .call { callee := .value (.func 52), args := #[x, y, z], argTypes := ats })
  (hx : a.eval x = .pointer (some ⟨A.GA, 0, none⟩)) (hy : a.eval y = .int .i64 g) (hz : a.eval z = .int .i64 w)
  (hM : Mt v0 A A.n C on L X u) (hA : AdOk A) (hlen : ∀ b, b ≤ 9 → (L b).length ≤ 1000) (hro : RowsOk A.n on rows) (hL : ∀ b, 1 ≤ b → b ≤ 9 → L b = rowI (rows b)) (g1 : 1 ≤ g) (gn : g ≤ A.n)
  (hV : Vw γ A.n C A.R (fun q => if inCo on g q then w :: f q else f q) F)
  (h : ∀ u' X' γ', Mt v0 A A.n C on (alUp L (decide (co A.n on g = [])) w) X' u' → Vw γ' A.n C A.R f F → KA (MNext Try.prog 84 Wg false Base Post (N + 1) γ') (G (b.at (a.put o.dst (.tuple #[])) (.inRegion ops rest :: ks)) cs) u') :
  KA (MNext Try.prog 84 Wg false Base Post ((co A.n on g).length + N + 1) γ) (G (b.at a (.inRegion ops (i :: rest) :: ks)) cs) u := by
 have hF := hM.flat
 have hK := kn_ok (P := Try.prog) (ty := 84) (Wg := Wg) (Base := Base) (Post := Post) ((co A.n on g).length + N) γ
 have hdst : (ops[i]?).bind (·.dst) = o.dst := by rw [ho]; rfl
 have c2 := hM.cell 2
 have c3 := hM.cell 3
 simp [gatC] at c2 c3
 have con := hM.onCell gn
 have o9 := hro.on9 g g1 gn
 have hb1 : (g : Int) < (A.n : Int) + 1 := by omega
 refine kCall hK hF ho hw hk hop Try.func52 (by kernel_rfl) rfl ?_
 simp only [List.map_toArray, List.map_cons, List.map_nil, hx, hy, hz]
 walk_nrmf Try.f52
 refine kSeq hK hF (kRegion hK hF ?_)
 refine kOp closedS.bodies hK hF (val := .int .i64 (0 : Nat)) (by k_ne) rfl rfl (by kernel_rfl) (fun v₁ hv => by go_simp <;> rfl) ?_
 walk_nrm
 refine kRegEnd hK hF (kSeq hK hF (kSeq hK hF ?_))
 have hgm : ∀ t : Nat → Question → Nat, mcm (u.re t 0) A.Gm = true := fun t => hM.gm
 refine kLiftS closedS hK hF (by kernel_rfl) (by k_ne) fun t1 => ?_
 have c2' : (u.re t1 0).cell? ⟨A.GA, 2, none⟩ = _ := c2
 have con' : (u.re t1 0).cell? ⟨A.On, g, none⟩ = _ := con
 have Hkeep := Lib.hid (And.intro hM (And.intro hro (And.intro hL (And.intro hlen hV))))
 clear hM hro hL hlen hV c2 con
 generalize hQ : Behind _ _ _ _ _ = Q
 go_wp2
 subst hQ
 refine ⟨rfl, fun _ _ => KA.re ?_⟩
 clear c2' con'
 obtain ⟨hM, hro, hL, hlen, hV⟩ := Hkeep.out
 refine kSeq hK hF (kRegion hK hF ?_)
 refine kOp closedS.bodies hK hF (val := .chan (A.ch (on g))) (by k_ne) rfl rfl (by kernel_rfl) (fun v₁ hv => by go_simp <;> rfl) ?_
 walk_nrm
 refine kOp closedS.bodies hK hF (val := .bool (!(A.ch (on g) == none))) (by k_ne) rfl rfl (by kernel_rfl) (fun v₁ hv => by go_simp <;> rfl) ?_
 walk_nrm
 refine kRegEnd hK hF ?_
 by_cases h0 : on g = 0
 ·have e0 : (!(A.ch (on g) == none)) = false := by rw [h0, hA.h0]; rfl
  have eco : co A.n on g = [] := co_none h0
  rw [eco] at h ⊢
  have hend := say_end (Base := Base) (Post := Post) (Wg := Wg) (N := N) (m := 0) (γ := γ) (b := b) (a := a) (ks := ks) (cs := cs) (g := g) (w := w) hdst hM hA (hlen 0 (by omega)) (fun u' X' hM' => h u' X' γ (by simpa using hM') (hV.congr fun i _ => by rw [inCo_none h0]; rfl))
  simp only [List.length_nil, Nat.zero_add]
  have hK := kn_ok (P := Try.prog) (ty := 84) (Wg := Wg) (Base := Base) (Post := Post) N γ
  simp only [E52, body52, Try.f52, Option.getD_some] at hend
  refine kCond hK hF (t := false) (congrArg Value.bool e0) ?_
  simp only [Bool.false_eq_true, if_false]
  refine kSkip hK hF ?_
  exact hend _ _ _ _ _ _ _ _ _ _ _ _ _ _ _ _ _ _ _ _ _ _ _ _ _ _ _ _ _ _ _ _ _ _ _ _ _ _ _ _ _ _ _ _ _ _ _ _ _ _ _ _
 ·have e0 : (!(A.ch (on g) == none)) = true := by
   have : A.ch (on g) ≠ none := fun e => h0 (hA.inj (on g) 0 (by omega) (by omega) (by rw [e, hA.h0]))
   cases hcc : A.ch (on g) with
   | none => exact absurd hcc this
   | some _ => rfl
  have hp := hro.others g1 gn h0
  have el := hp.length_eq
  have hrow := hM.row (on g) o9
  have hgg := hM.gmg (on g) (by omega) o9
  have hl := hL (on g) (by omega) o9
  have hlb := hlen (on g) o9
  rw [hl] at hrow hlb
  obtain ⟨Ab, cb, hX⟩ := own_form hrow
  have hrow' := hrow
  rw [hX] at hrow'
  have hRI := RI.of_own hrow'
  clear hrow'
  rw [rowI_length] at hX hlb
  rw [← el]
  have hloop := say_loop (Base := Base) (Post := Post) (Wg := Wg) (g := g) (w := w) (f := f) (F := F) (N := N) (l := rows (on g)) (Ab := Ab) (cb := cb) (cs := b.at a (.inRegion ops (i :: rest) :: ks) :: cs) hM hRI (fun q hq => ((hro.mem _ (by omega) o9 q).1 hq).1) (hro.nod _ (by omega) o9) hlb
   (fun γ' m hV' hm => say_end (Base := Base) (Post := Post) (Wg := Wg) (N := N) (m := m) (γ := γ') (b := b) (a := a) (ks := ks) (cs := cs) (g := g) (w := w) hdst hM hA (hlen 0 (by omega)) (fun u' X' hM' => h u' X' γ' (by
    have e3 : decide (co A.n on g = []) = (m == 0) := by
     rw [Bool.eq_iff_iff, decide_eq_true_eq, beq_iff_eq, hm]
     exact ⟨fun e => by rw [e] at hp; exact hp.eq_nil, fun e => by rw [e] at hp; exact hp.symm.eq_nil⟩
    rw [e3]; exact hM') hV'))
   (rows (on g)) 0 (by omega) rfl γ 0 (hV.congr fun i hi => by
    by_cases hin : inCo on g (i + 1) = true
    ·rw [if_pos hin, if_pos ((inCo_mem hro g1 gn h0 (by omega) (by omega)).1 hin)]
    ·rw [if_neg hin, if_neg (fun e => hin ((inCo_mem hro g1 gn h0 (by omega) (by omega)).2 e))]) (by simp) (Nat.le_refl _)
  simp only [E52, L52, body52, Try.f52, Option.getD_some] at hloop
  rw [← el] at hK
  refine kCond hK hF (t := true) (congrArg Value.bool e0) ?_
  simp only [if_true]
  refine kSeq hK hF ?_
  refine kLiftS closedS hK hF (by kernel_rfl) (by k_ne) fun t1 => ?_
  have c3' : (u.re t1 0).cell? ⟨A.GA, 3, none⟩ = _ := c3
  have hlk : (Instr.lookup 60 (.map (some A.Gm)) (.chan (A.ch (on g))) false).run Try.prog (u.re t1 0) = .ok (.slice Ab (rows (on g)).length cb) (u.re t1 0) := by
   rw [run_look (hgm t1)]
   have : mget (u.re t1 0) A.Gm (A.ch (on g)) = mget u A.Gm (A.ch (on g)) := rfl
   rw [this, hgg, hX]
  clear hM hro hL hlen hV hX hgg hrow hl hRI hp el hgm
  generalize hQ : Behind _ _ _ _ _ = Q
  go_wp2
  subst hQ
  refine ⟨rfl, fun _ _ => KA.re ?_⟩
  clear c3' hlk
  refine kBlock hK hF (kLoop hK hF ?_)
  exact hloop _ _ _ _ _ _ _ _ _ _ _ _ _ _ _ _ _ _ _ _ _ _ _ _ _ _ _ _ _ _ _ _ _ _ _ _ _ _ _ _ _ _ _ _ _ _ _ _ _
end
end Go.Proofs.Ythmgpkcijolljaa
