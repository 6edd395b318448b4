/-
  meetGuests: the workers' channels are closed, one by one.
-/
import Derived.Test.YthmgpkcijolljaaHKEvL
import Derived.Conc.EventLaws
namespace Go.Proofs.Ythmgpkcijolljaa
open Go.Conc Go.RowKit Go.Conc.Lib
open Go.ConcN (upd upd_same upd_ne)
open Go.ChangeMaps
set_option linter.unusedSimpArgs false
set_option linter.unusedVariables false
theorem seen35 (c : Nat) : seen Try.prog 35 (shutEv c) = shutEv c := seen_eq (by kernel_rfl) (by intro e he f; rcases shutEv_mem he with rfl | rfl <;> simp)
/-- A close in a walk of f35. -/
theorem kn_shut_at {Base : BsP} {Post : Value → World → Prop} {Wg n k : Nat} {γ : View} {v : World} {b : Frame} {a : Act} {ks : List Item} {cs : List Frame} {ops : Array Oper} {i : Nat} {rest : List Nat} {o : Oper} {x : Operand} {ats : Array TypeId} {tl : List Say}
  (ho : ops[i]? = some o) (hw : Region.wanted o (yielded ops a.tmps) = true) (hk : b.kind ≠ .early) (hfn : b.fn = 35) (hop : o.op = .call { callee := .builtin .close, args := #[x], argTypes := ats }) (hx : a.eval x = .chan (some (γ.c k))) (hkj : k < γ.j) (hσ : γ.σ k = .eof :: tl) (hs : γ.shut k = false)
  (h : KA (MNext Try.prog 84 Wg false Base Post n { γ with shut := upd γ.shut k true }) (G (b.at (a.put o.dst (.tuple #[])) (.inRegion ops rest :: ks)) cs) v) :
  KA (MNext Try.prog 84 Wg false Base Post (n + 1) γ) (G (b.at a (.inRegion ops (i :: rest) :: ks)) cs) v := by
 refine kn_shut (g' := G (b.at (a.put o.dst (.tuple #[])) (.inRegion ops rest :: ks)) cs) hkj hσ hs ⟨rfl, rfl, ?_, fun w s r tm hc => ?_⟩ h
 ·show mayWake Try.prog (G (b.at a (.inRegion ops (i :: rest) :: ks)) cs) = true
  simp [mayWake, G, Frame.at, ho, hop]
 ·have hr : (execOp a.eval o).run Try.prog w = .ok (.value (.tuple #[])) (shutOn w (γ.c k) s r tm) := by
   unfold execOp
   simp only [hop, resolve, invoke, builtin, Sem.run_bind, Sem.run_pure, Result.andThen_ok, List.map_toArray, List.map_cons, List.map_nil, hx, run_close_open _ _ hc]
   rfl
  have he : (execOp a.eval o).events Try.prog w #[] = shutEv (γ.c k) := by
   unfold execOp
   simp only [hop, resolve, invoke, builtin, List.map_toArray, List.map_cons, List.map_nil, hx]
   simp [go_sem, events_close_open _ _ hc]
   rfl
  rw [stepG_plain (x := .tuple #[]) (.inl rfl) ho hw hk hr he, hfn, seen35]
noncomputable def L6 : Code := match E4 with | .seq (.seq _ (.block _ (.loop c))) _ => c | _ => .skip
noncomputable def E6 : Code := match E4 with | .seq _ c => c | _ => .skip
/-- What is in view of the workers, p of whom have had their channel closed. -/
structure Vx (γ : View) (k : Nat) (C : Nat → Nat) (B0 p : Nat) (F : Nat → List Int) : Prop where
 j : γ.j = k
 owed : γ.owed = 0
 c : ∀ i, i < k → γ.c i = C i
 shut : ∀ i, i < k → γ.shut i = decide (i < p)
 say : ∀ i, i < k → γ.σ i = hears []
 dn : ∀ i, i < k → γ.dn i = HeardD B0 (F (i + 1))
theorem Vw.x {γ : View} {k : Nat} {C : Nat → Nat} {B0 : Nat} {F : Nat → List Int} (h : Vw γ k C B0 (fun _ => []) F) : Vx γ k C B0 0 F := ⟨h.j, h.owed, h.c, fun i hi => by rw [h.shut i hi]; simp, h.say, h.dn⟩
theorem Vx.next {γ : View} {k : Nat} {C : Nat → Nat} {B0 p : Nat} {F : Nat → List Int} (h : Vx γ k C B0 p F) : Vx { γ with shut := upd γ.shut p true } k C B0 (p + 1) F := by
 refine ⟨h.j, h.owed, h.c, fun i hi => ?_, h.say, h.dn⟩
 show upd γ.shut p true i = _
 by_cases e : i = p
 ·subst e; rw [upd_same]; simp
 ·rw [upd_ne _ _ e, h.shut i hi]
  congr 1
  rw [eq_iff_iff]; omega
section
variable {Base : BsP} {Post : Value → World → Prop} {Wg : Nat} {v0 u : World} {A : Ad} {C : Nat → Nat} {on : Nat → Nat} {L : Nat → List Int} {X : Nat → Value} {F : Nat → List Int}
structure HdS (A : Ad) (p Wg : Nat) (T : Array Value) : Prop where
 size : T.size = 97
 t7 : T.getD 7 undef = .pointer (some ⟨A.bg, 0, none⟩)
 t8 : T.getD 8 undef = .pointer (some ⟨Wg, 0, none⟩)
 t87 : T.getD 87 undef = .slice (some ⟨A.Ow, 1, none⟩) A.n A.n
 t88 : T.getD 88 undef = .int .i64 A.n
 t89 : T.getD 89 undef = .int .i64 p
set_option maxRecDepth 100000 in
set_option maxHeartbeats 1000000 in
theorem shut_loop {N : Nat} {cs : List Frame} (hM : Mt v0 A A.n C on L X u) (hA : AdOk A)
  (h : ∀ γ T, Vx γ A.n C A.R A.n F → HdS A A.n Wg T → KA (MNext Try.prog 84 Wg false Base Post (N + 1) γ) (G ((Conc.base 35).at ⟨T, []⟩ [.code E6]) cs) u) :
  ∀ (m p : Nat), p + m = A.n → ∀ γ T, Vx γ A.n C A.R p F → HdS A p Wg T → KA (MNext Try.prog 84 Wg false Base Post (m + N + 1) γ) (G ((Conc.base 35).at ⟨T, []⟩ [.code L6, .inLoop L6, .inBlock 6, .code E6]) cs) u := by
 have hF := hM.flat
 have hn5 := hA.n5
 intro m
 induction m with
 | zero =>
  intro p hp γ T hV hT
  obtain rfl : p = A.n := by omega
  have h' := h γ
  clear h
  rw [Nat.zero_add]
  have hK := kn_ok (P := Try.prog) (ty := 84) (Wg := Wg) (Base := Base) (Post := Post) N γ
  have hnl : ¬ ((A.n : Int) < (A.n : Int)) := by omega
  obtain ⟨hz, t7, t8, t87, t88, t89⟩ := hT
  obtain ⟨x0, x1, x2, x3, x4, x5, x6, x7, x8, x9, x10, x11, x12, x13, x14, x15, x16, x17, x18, x19, x20, x21, x22, x23, x24, x25, x26, x27, x28, x29, x30, x31, x32, x33, x34, x35, x36, x37, x38, x39, x40, x41, x42, x43, x44, x45, x46, x47, x48, x49, x50, x51, x52, x53, x54, x55, x56, x57, x58, x59, x60, x61, x62, x63, x64, x65, x66, x67, x68, x69, x70, x71, x72, x73, x74, x75, x76, x77, x78, x79, x80, x81, x82, x83, x84, x85, x86, x87, x88, x89, x90, x91, x92, x93, x94, x95, x96, rfl⟩ := arr97 hz
  obtain rfl : x7 = .pointer (some ⟨A.bg, 0, none⟩) := t7
  obtain rfl : x8 = .pointer (some ⟨Wg, 0, none⟩) := t8
  obtain rfl : x87 = .slice (some ⟨A.Ow, 1, none⟩) A.n A.n := t87
  obtain rfl : x88 = .int .i64 A.n := t88
  obtain rfl : x89 = .int .i64 A.n := t89
  simp only [L6, E6, E4, V35, S35, body35, Try.f35, Option.getD_some] at h' ⊢
  refine kSeq hK hF (kRegion hK hF ?_)
  refine kOp closedS.bodies hK hF (val := .bool false) (by k_ne) rfl rfl (by kernel_rfl) (fun v₁ hv => by go_simp; try simp [hnl]) ?_
  walk_nrm
  refine kRegEnd hK hF (kSeq hK hF (kCond hK hF (t := false) (by rfl) ?_))
  simp only [Bool.false_eq_true, if_false]
  refine kExit hK hF (k' := _) (by rfl) ?_
  exact h' _ hV ⟨rfl, rfl, rfl, rfl, rfl, rfl⟩
 | succ m ih =>
  intro p hp γ T hV hT
  have hpn : p < A.n := by omega
  have ih' := ih (p + 1) (by omega) { γ with shut := upd γ.shut p true }
  clear h ih
  rw [show m + 1 + N + 1 = m + N + 1 + 1 by omega]
  have hK := kn_ok (P := Try.prog) (ty := 84) (Wg := Wg) (Base := Base) (Post := Post) (m + N + 1) γ
  have hK2 := kn_ok (P := Try.prog) (ty := 84) (Wg := Wg) (Base := Base) (Post := Post) (m + N) { γ with shut := upd γ.shut p true }
  have hlt : (p : Int) < (A.n : Int) := by omega
  have how := hM.owCell hpn hpn
  have hi64 : IntKind.i64.wrap ((p : Int) + 1) = ((p + 1 : Nat) : Int) := by rw [IntKind.wrap_i64]; omega
  obtain ⟨hz, t7, t8, t87, t88, t89⟩ := hT
  obtain ⟨x0, x1, x2, x3, x4, x5, x6, x7, x8, x9, x10, x11, x12, x13, x14, x15, x16, x17, x18, x19, x20, x21, x22, x23, x24, x25, x26, x27, x28, x29, x30, x31, x32, x33, x34, x35, x36, x37, x38, x39, x40, x41, x42, x43, x44, x45, x46, x47, x48, x49, x50, x51, x52, x53, x54, x55, x56, x57, x58, x59, x60, x61, x62, x63, x64, x65, x66, x67, x68, x69, x70, x71, x72, x73, x74, x75, x76, x77, x78, x79, x80, x81, x82, x83, x84, x85, x86, x87, x88, x89, x90, x91, x92, x93, x94, x95, x96, rfl⟩ := arr97 hz
  obtain rfl : x7 = .pointer (some ⟨A.bg, 0, none⟩) := t7
  obtain rfl : x8 = .pointer (some ⟨Wg, 0, none⟩) := t8
  obtain rfl : x87 = .slice (some ⟨A.Ow, 1, none⟩) A.n A.n := t87
  obtain rfl : x88 = .int .i64 A.n := t88
  obtain rfl : x89 = .int .i64 p := t89
  simp only [L6, E6, E4, V35, S35, body35, Try.f35, Option.getD_some] at ih' ⊢
  refine kSeq hK hF (kRegion hK hF ?_)
  refine kOp closedS.bodies hK hF (val := .bool true) (by k_ne) rfl rfl (by kernel_rfl) (fun v₁ hv => by go_simp; try simp [hlt]) ?_
  walk_nrm
  refine kRegEnd hK hF (kSeq hK hF (kCond hK hF (t := true) (by rfl) ?_))
  simp only [if_true]
  refine kSkip hK hF (kSeq hK hF (kBlock hK hF (kSeq hK hF (kRegion hK hF ?_))))
  refine kOp closedS.bodies hK hF (val := .pointer (some ⟨A.Ow, p + 1, none⟩)) (by k_ne) rfl rfl (by kernel_rfl) (fun v₁ hv => by go_simp <;> (try simp [Addr.add, Nat.add_comm 1 p]) <;> rfl) ?_
  walk_nrm
  refine kOp closedS.bodies hK hF (val := .chan (some (C p))) (by k_ne) rfl rfl (by kernel_rfl) (fun v₁ hv => by have := cell_up hv how; go_simp <;> rfl) ?_
  walk_nrm
  refine kOp closedS.bodies hK hF (val := .chan (some (C p))) (by k_ne) rfl rfl (by kernel_rfl) (fun v₁ hv => by go_simp <;> rfl) ?_
  walk_nrm
  refine kRegEnd hK hF (kRegion hK hF ?_)
  refine kOp closedS.bodies hK hF (val := .chan (some (C p))) (by k_ne) rfl rfl (by kernel_rfl) (fun v₁ hv => by go_simp <;> rfl) ?_
  walk_nrm
  refine kn_shut_at (k := p) (tl := [.look, .put]) rfl rfl (by k_ne) rfl rfl (by rw [hV.c p hpn]; rfl) (by rw [hV.j]; exact hpn) (by rw [hV.say p hpn, hears_nil]) (by rw [hV.shut p hpn]; simp) ?_
  walk_nrm
  refine kRegEnd hK2 hF (kInBlock hK2 hF (kRegion hK2 hF ?_))
  refine kOp closedS.bodies hK2 hF (val := .int .i64 ((p + 1 : Nat) : Int)) (by k_ne) rfl rfl (by kernel_rfl) (fun v₁ hv => by go_simp; try simp [hi64]) ?_
  walk_nrm
  refine kOp closedS.bodies hK2 hF (val := .int .i64 ((p + 1 : Nat) : Int)) (by k_ne) rfl rfl (by kernel_rfl) (fun v₁ hv => by go_simp <;> rfl) ?_
  walk_nrm
  refine kRegEnd hK2 hF (kInLoop hK2 hF ?_)
  exact ih' _ hV.next ⟨rfl, rfl, rfl, rfl, rfl, rfl⟩
end
end Go.Proofs.Ythmgpkcijolljaa
namespace Go.Proofs.Ythmgpkcijolljaa
open Go.Conc Go.RowKit Go.Conc.Lib
open Go.ConcN (upd upd_same upd_ne)
open Go.ChangeMaps
set_option linter.unusedSimpArgs false
set_option linter.unusedVariables false
section
variable {Base : BsP} {Post : Value → World → Prop} {Wg : Nat} {v0 u : World} {A : Ad} {C : Nat → Nat} {on : Nat → Nat} {L : Nat → List Int} {X : Nat → Value} {F : Nat → List Int}
set_option maxRecDepth 100000 in
set_option maxHeartbeats 1000000 in
/-- Region 27 and the closing loop. -/
theorem shut_all {N : Nat} {γ : View} {ad : Addr} {cp nl p : Nat} {T : Array Value} {cs : List Frame} (hM : Mt v0 A A.n C on L X u) (hA : AdOk A) (hV : Vw γ A.n C A.R (fun _ => []) F) (hT : HdT A ad cp nl p Wg T)
  (h : ∀ γ T, Vx γ A.n C A.R A.n F → HdS A A.n Wg T → KA (MNext Try.prog 84 Wg false Base Post (N + 1) γ) (G ((Conc.base 35).at ⟨T, []⟩ [.code E6]) cs) u) :
  KA (MNext Try.prog 84 Wg false Base Post (A.n + N + 1) γ) (G ((Conc.base 35).at ⟨T, []⟩ [.code E4]) cs) u := by
 have hF := hM.flat
 have hlp := shut_loop (Base := Base) (Post := Post) (Wg := Wg) (N := N) (cs := cs) hM hA h A.n 0 (by omega) γ
 clear h
 have hK := kn_ok (P := Try.prog) (ty := 84) (Wg := Wg) (Base := Base) (Post := Post) (A.n + N) γ
 have hbg := hM.bgCell
 have c4 : u.cell? ⟨A.GA, 4, none⟩ = some (.slice (some ⟨A.Ow, 0, none⟩) (A.n + 1) (A.n + 1)) := by have := hM.cell 4; simpa [gatC] using this
 have hn5 := hA.n5
 have hn1 := hA.n1
 have hne : ¬ A.n + 1 = 1 := by omega
 have hne0 : ¬ A.n = 0 := by omega
 have hnlt : ¬ ((A.n : Int) + 1 < 1) := by omega
 obtain ⟨hz, t7, t8, _, _, _⟩ := hT
 obtain ⟨x0, x1, x2, x3, x4, x5, x6, x7, x8, x9, x10, x11, x12, x13, x14, x15, x16, x17, x18, x19, x20, x21, x22, x23, x24, x25, x26, x27, x28, x29, x30, x31, x32, x33, x34, x35, x36, x37, x38, x39, x40, x41, x42, x43, x44, x45, x46, x47, x48, x49, x50, x51, x52, x53, x54, x55, x56, x57, x58, x59, x60, x61, x62, x63, x64, x65, x66, x67, x68, x69, x70, x71, x72, x73, x74, x75, x76, x77, x78, x79, x80, x81, x82, x83, x84, x85, x86, x87, x88, x89, x90, x91, x92, x93, x94, x95, x96, rfl⟩ := arr97 hz
 obtain rfl : x7 = .pointer (some ⟨A.bg, 0, none⟩) := t7
 obtain rfl : x8 = .pointer (some ⟨Wg, 0, none⟩) := t8
 simp only [L6, E6, E4, V35, S35, body35, Try.f35, Option.getD_some] at hlp ⊢
 refine kSeq hK hF (kSeq hK hF (kRegion hK hF ?_))
 refine kOp closedS.bodies hK hF (val := .pointer (some ⟨A.GA, 0, none⟩)) (by k_ne) rfl rfl (by kernel_rfl) (fun v₁ hv => by have := cell_up hv hbg; go_simp <;> rfl) ?_
 walk_nrm
 refine kOp closedS.bodies hK hF (val := .pointer (some ⟨A.GA, 0, none⟩)) (by k_ne) rfl rfl (by kernel_rfl) (fun v₁ hv => by go_simp <;> rfl) ?_
 walk_nrm
 refine kOp closedS.bodies hK hF (val := .pointer (some ⟨A.GA, 4, none⟩)) (by k_ne) rfl rfl (by kernel_rfl) (fun v₁ hv => by go_simp <;> rfl) ?_
 walk_nrm
 refine kOp closedS.bodies hK hF (val := .slice (some ⟨A.Ow, 0, none⟩) (A.n + 1) (A.n + 1)) (by k_ne) rfl rfl (by kernel_rfl) (fun v₁ hv => by have := cell_up hv c4; go_simp <;> rfl) ?_
 walk_nrm
 refine kOp closedS.bodies hK hF (val := .slice (some ⟨A.Ow, 1, none⟩) A.n A.n) (by k_ne) rfl rfl (by kernel_rfl) (fun v₁ hv => by go_simp; try simp [hne, hne0, hnlt]) ?_
 walk_nrm
 refine kOp closedS.bodies hK hF (val := .int .i64 A.n) (by k_ne) rfl rfl (by kernel_rfl) (fun v₁ hv => by go_simp <;> rfl) ?_
 walk_nrm
 refine kOp closedS.bodies hK hF (val := .int .i64 (0 : Nat)) (by k_ne) rfl rfl (by kernel_rfl) (fun v₁ hv => by go_simp <;> rfl) ?_
 walk_nrm
 refine kRegEnd hK hF (kBlock hK hF (kLoop hK hF ?_))
 exact hlp _ hV.x ⟨rfl, rfl, rfl, rfl, rfl, rfl⟩
end
end Go.Proofs.Ythmgpkcijolljaa
