/-
  Receiving from the workers; MergeAround's inner loop.
-/
import Derived.Test.YtoimhdhplebhgaaG8
namespace Go.Proofs.Ytoimhdhplebhgaa
open Go.Conc Go.RowKit Go.Conc.Lib Go.ConcR.Gen
open Go.ConcN (upd upd_same upd_ne)
open Go.ConcR (KK WgAt stA smA rd wr mk DC0)
set_option linter.unusedSimpArgs false
set_option linter.unusedVariables false

/-- The workers are at work: what each has yet to say. -/
structure Rv (v : World) (V : List Value) (M : List (List Int)) (C : Nat → Nat) (R : Nat → List Int) (γ : View) (u : World) : Prop where
  flat : Flat Try.prog u
  size : v.heap.size ≤ u.heap.size
  blk : ∀ b, b < v.heap.size → u.heap[b]? = v.heap[b]? ∨ (u.heap[b]? = some hid ∧ ∃ i x, i < M.length ∧ V[i]? = some x ∧ x.ownBlock = some b)
  j : γ.j = M.length
  owed : γ.owed = 0
  shut : ∀ i, i < M.length → γ.shut i = false
  dn : ∀ i x, i < M.length → V[i]? = some x → γ.dn i = DnOf v x
  c : ∀ i, i < M.length → γ.c i = C i
  say : ∀ i, i < M.length → γ.σ i = says (R i)
theorem Sl.rv {v u : World} {V : List Value} {M : List (List Int)} {Wg bw : Nat} {γ : View} {sv : Value} (h : Sl v V M Wg bw γ M.length sv u) : Rv v V M γ.c (fun i => M.getD i []) γ u :=
  ⟨h.flat, h.size, h.blk, h.j, h.owed, h.shut, h.dn, fun _ _ => rfl, fun i hi => by
    have := h.say i hi hi
    rw [this]
    simp [List.getD, hi]⟩
theorem Rv.world {v u w : World} {V : List Value} {M : List (List Int)} {C : Nat → Nat} {R : Nat → List Int} {γ : View} (h : Rv v V M C R γ u) (hF : Flat Try.prog w) (hs : u.heap.size ≤ w.heap.size) (hb : ∀ b, b < v.heap.size → w.heap[b]? = u.heap[b]?) : Rv v V M C R γ w :=
  ⟨hF, Nat.le_trans h.size hs, fun b hb' => by rw [hb b hb']; exact h.blk b hb', h.j, h.owed, h.shut, h.dn, h.c, h.say⟩
theorem Rv.heard {v u : World} {V : List Value} {M : List (List Int)} {C : Nat → Nat} {R : Nat → List Int} {γ : View} (h : Rv v V M C R γ u) (k : Nat) (l : List Int) : Rv v V M C (upd R k l) { γ with σ := upd γ.σ k (says l) } u :=
  ⟨h.flat, h.size, h.blk, h.j, h.owed, h.shut, h.dn, h.c, fun i hi => by
    show upd γ.σ k (says l) i = _
    by_cases e : i = k
    · subst e; rw [upd_same, upd_same]
    · rw [upd_ne _ _ e, upd_ne _ _ e]; exact h.say i hi⟩
theorem Rv.same {v u : World} {V : List Value} {M : List (List Int)} {C : Nat → Nat} {R : Nat → List Int} {γ : View} (h : Rv v V M C R γ u) (k : Nat) (l : List Int) (he : R k = l) : Rv v V M C (upd R k l) γ u :=
  ⟨h.flat, h.size, h.blk, h.j, h.owed, h.shut, h.dn, h.c, fun i hi => by
    by_cases e : i = k
    · subst e; rw [upd_same, ← he]; exact h.say i hi
    · rw [upd_ne _ _ e]; exact h.say i hi⟩
section
variable {Base : Bs} {Post : Value → World → Prop}
/-- It receives from worker k. -/
theorem kn_recv {Wg n : Nat} {γ : View} {v : World} {b : Frame} {a : Act} {k : List Item} {cs : List Frame} {ops : Array Oper} {i : Nat} {rest : List Nat} {o : Oper} {x : Operand} {w : Nat} {R : List Int}
    (ho : ops[i]? = some o) (hw : Region.wanted o (yielded ops a.tmps) = true) (hk : b.kind ≠ .early) (hop : o.op = .recv 51 x true) (hx : a.eval x = .chan (some (γ.c w))) (hkw : w < γ.j) (hσ : γ.σ w = says R)
    (h1 : ∀ y l, R = y :: l → KA (MNext Try.prog 47 Wg true Base Post n { γ with σ := upd γ.σ w (says l) }) (G (b.at (a.put o.dst (.tuple #[.int .i64 y, .bool true])) (.inRegion ops rest :: k)) cs) v)
    (h2 : R = [] → KA (MNext Try.prog 47 Wg true Base Post n γ) (G (b.at (a.put o.dst (.tuple #[.int .i64 0, .bool false])) (.inRegion ops rest :: k)) cs) v) :
    KA (MNext Try.prog 47 Wg true Base Post (n + 1) γ) (G (b.at a (.inRegion ops (i :: rest) :: k)) cs) v := by
  have hc : Comm Try.prog true (G (b.at a (.inRegion ops (i :: rest) :: k)) cs) (G (b.at a (.inRegion ops (i :: rest) :: k)) cs) #[rcase (γ.c w) (.int .i64 0)] (.recv true) :=
    comm_at ho hw hk (fun W => by unfold execOp; simp only [hop, hx]; simp [rcase, go_sem]) (fun W => by unfold execOp; simp only [hop, hx]; simp [go_sem])
  cases R with
  | nil =>
    refine kn_eof hkw (l := []) hσ hc ?_
    rw [(after_at ho).2.1]
    exact h2 rfl
  | cons y l =>
    refine kn_hear hkw (l := says l) hσ hc ?_
    rw [(after_at ho).2.1]
    exact h1 y l rfl
end
noncomputable def body8 : Code := Try.f8.body.getD .skip
noncomputable def L8o : Code := match body8 with | .seq _ (.seq _ (.seq _ (.seq _ (.seq _ (.seq (.block _ (.loop c)) _))))) => c | _ => .skip
noncomputable def E8 : Code := match body8 with | .seq _ (.seq _ (.seq _ (.seq _ (.seq _ (.seq _ c))))) => c | _ => .skip
noncomputable def L8i : Code := match L8o with | .seq _ (.block _ (.seq _ (.seq (.seq _ (.block _ (.loop c))) _))) => c | _ => .skip
noncomputable def E8i : Code := match L8o with | .seq _ (.block _ (.seq _ (.seq _ c))) => c | _ => .skip
def T8 (wgp ov mv stv : Value) (n p : Nat) (x0 x1 x8 x9 x10 x11 x12 x13 x14 x15 x16 x17 x18 x19 x20 x24 x25 x26 x27 x28 x29 x30 x31 x32 x33 x34 x35 x36 x37 x38 x39 x40 x41 x42 x43 x44 : Value) : Array Value :=
  #[x0, x1, .slice none 0 0, .bool false, wgp, ov, mv, stv, x8, x9, x10, x11, x12, x13, x14, x15, x16, x17, x18, x19, x20, ov, .int .i64 n, .int .i64 p, x24, x25, x26, x27, x28, x29, x30, x31, x32, x33, x34, x35, x36, x37, x38, x39, x40, x41, x42, x43, x44]
/-- One round: who is asked in turn. -/
def runR (R : Nat → List Int) : List Nat → Nat → List Int
  | [] => R
  | i :: l => runR (upd R i (R i).tail) l
def runOut (R : Nat → List Int) : List Nat → List Int
  | [] => []
  | i :: l => (R i).take 1 ++ runOut (upd R i (R i).tail) l
def runStill (R : Nat → List Int) : List Nat → List Nat
  | [] => []
  | i :: l => if R i = [] then runStill (upd R i (R i).tail) l else i :: runStill (upd R i (R i).tail) l
def chs (C : Nat → Nat) (I : List Nat) : List Value := I.map fun i => Value.chan (some (C i))
structure Rin (v : World) (V : List Value) (M : List (List Int)) (C : Nat → Nat) (I : List Nat) (ov : Value) (γ : View) (R : Nat → List Int) (stv mv : Value) (S : List Nat) (out : List Int) (u : World) : Prop where
  rv : Rv v V M C R γ u
  hov : u.ownsRow v.heap.size 51 1 ov I.length (chs C I)
  hst : u.ownsRow v.heap.size 51 1 stv S.length (chs C S)
  hmv : u.ownsRow v.heap.size 3 1 mv out.length (ints out)
  apart : ∀ b, stv.ownBlock = some b → ov.ownBlock ≠ some b
section
variable {v u w3 : World} {V : List Value} {M : List (List Int)} {C : Nat → Nat} {I : List Nat} {ov : Value} {γ : View} {R : Nat → List Int} {stv mv : Value} {S : List Nat} {out : List Int} {t1 : Nat → Question → Nat} {o : Obj}
theorem grown_blk {row : Option Nat} (hg : ((u.re t1 0).alloc o).grownBy w3 row) {b : Nat} (hb : b < u.heap.size) (hne : row ≠ some b) : w3.heap[b]? = u.heap[b]? := by
  rw [hg.block b (by rw [alloc_size, re_heap]; omega) (fun e => hne e.symm), Below.heap_alloc _ _ _ (by rw [re_heap]; omega)]; rfl
theorem grown_size {row : Option Nat} (hg : ((u.re t1 0).alloc o).grownBy w3 row) : u.heap.size + 1 ≤ w3.heap.size := by
  have := hg.size; rw [alloc_size, re_heap] at this; exact this
theorem Rv.grown (h : Rv v V M C R γ u) (hF : Flat Try.prog w3) {row : Option Nat} (hg : ((u.re t1 0).alloc o).grownBy w3 row) (hr : ∀ b, row = some b → v.heap.size ≤ b) : Rv v V M C R γ w3 :=
  h.world hF (by have := grown_size hg; omega) fun b hb => grown_blk hg (by have := h.size; omega) fun e => by have := hr b e; omega
theorem row_grown {base n sz : Nat} {e : TypeId} {x : Value} {xs : List Value} (h : u.ownsRow base e sz x n xs) {row : Option Nat} (hg : ((u.re t1 0).alloc o).grownBy w3 row) (hne : ∀ b, x.ownBlock = some b → row ≠ some b) : w3.ownsRow base e sz x n xs :=
  own_blocks h fun b hb => grown_blk hg (h.lt b hb).2 (hne b hb)
theorem Rin.app_int (h : Rin v V M C I ov γ R stv mv S out u) (hF : Flat Try.prog w3) {mv' : Value} {y : Int} (hown : w3.ownsRow v.heap.size 3 1 mv' (out.length + 1) (ints out ++ [.int .i64 y])) (hg : ((u.re t1 0).alloc o).grownBy w3 mv.ownBlock) : Rin v V M C I ov γ R stv mv' S (out ++ [y]) w3 :=
  ⟨h.rv.grown hF hg (fun b hb => (h.hmv.lt b hb).1), row_grown h.hov hg (fun b hb hb' => own_types h.hov h.hmv (by decide) b hb hb'), row_grown h.hst hg (fun b hb hb' => own_types h.hst h.hmv (by decide) b hb hb'), by simpa [ints] using hown, h.apart⟩
theorem Rin.app_chan (h : Rin v V M C I ov γ R stv mv S out u) (hF : Flat Try.prog w3) {stv' : Value} {i : Nat} (hown : w3.ownsRow v.heap.size 51 1 stv' (S.length + 1) (chs C S ++ [.chan (some (C i))])) (hg : ((u.re t1 0).alloc o).grownBy w3 stv.ownBlock)
    (hloc : stv'.ownBlock = stv.ownBlock ∨ stv'.ownBlock = some ((u.re t1 0).alloc o).heap.size) : Rin v V M C I ov γ R stv' mv (S ++ [i]) out w3 :=
  ⟨h.rv.grown hF hg (fun b hb => (h.hst.lt b hb).1), row_grown h.hov hg (fun b hb hb' => h.apart b hb' hb), by simpa [chs] using hown, row_grown h.hmv hg (fun b hb hb' => own_types h.hst h.hmv (by decide) b hb' hb), fun b hb hb' => by
    rcases hloc with e | e
    · exact h.apart b (e ▸ hb) hb'
    · have h1 := (h.hov.lt b hb').2
      rw [e, alloc_size, re_heap] at hb
      have := Option.some.inj hb
      omega⟩
theorem Rin.re_ (h : Rin v V M C I ov γ R stv mv S out u) {γ' : View} {R' : Nat → List Int} (hr : Rv v V M C R' γ' u) : Rin v V M C I ov γ' R' stv mv S out u := ⟨hr, h.hov, h.hst, h.hmv, h.apart⟩
end
section
variable {Base : Bs} {Post : Value → World → Prop} {v : World} {Wg : Nat} {V : List Value} {M : List (List Int)} {C : Nat → Nat} {I : List Nat} {ov wgp : Value}
set_option maxRecDepth 100000 in
set_option maxHeartbeats 4000000 in
theorem around_inner {N : Nat} {cs : List Frame} (hI : I.length ≤ 100) (hIn : ∀ i ∈ I, i < M.length) :
    ∀ (l : List Nat) (p : Nat), I.drop p = l → p + l.length = I.length → ∀ γ u R S stv mv out, Rin v V M C I ov γ R stv mv S out u → S.length ≤ p → out.length + l.length ≤ 100000 →
      (∀ γ' u' stv' mv', Rin v V M C I ov γ' (runR R l) stv' mv' (S ++ runStill R l) (out ++ runOut R l) u' → ∀ x0 x1 x8 x9 x10 x11 x12 x13 x14 x15 x16 x17 x18 x19 x20 x24 x25 x26 x27 x28 x29 x30 x31 x32 x33 x34 x35 x36 x37 x38 x39 x40 x41 x42 x43 x44, KA (MNext Try.prog 47 Wg true Base Post (N + 1) γ') (G ((Conc.base 8).at ⟨T8 wgp ov mv' stv' I.length I.length x0 x1 x8 x9 x10 x11 x12 x13 x14 x15 x16 x17 x18 x19 x20 x24 x25 x26 x27 x28 x29 x30 x31 x32 x33 x34 x35 x36 x37 x38 x39 x40 x41 x42 x43 x44, []⟩ [.code E8i, .inBlock 1, .inLoop L8o, .inBlock 0, .code E8]) cs) u') → ∀ x0 x1 x8 x9 x10 x11 x12 x13 x14 x15 x16 x17 x18 x19 x20 x24 x25 x26 x27 x28 x29 x30 x31 x32 x33 x34 x35 x36 x37 x38 x39 x40 x41 x42 x43 x44,
      KA (MNext Try.prog 47 Wg true Base Post (l.length + N + 1) γ) (G ((Conc.base 8).at ⟨T8 wgp ov mv stv I.length p x0 x1 x8 x9 x10 x11 x12 x13 x14 x15 x16 x17 x18 x19 x20 x24 x25 x26 x27 x28 x29 x30 x31 x32 x33 x34 x35 x36 x37 x38 x39 x40 x41 x42 x43 x44, []⟩ [.code L8i, .inLoop L8i, .inBlock 2, .code E8i, .inBlock 1, .inLoop L8o, .inBlock 0, .code E8]) cs) u := by
  intro l
  induction l with
  | nil =>
    intro p hd hp γ u R S stv mv out hR hS ho h x0 x1 x8 x9 x10 x11 x12 x13 x14 x15 x16 x17 x18 x19 x20 x24 x25 x26 x27 x28 x29 x30 x31 x32 x33 x34 x35 x36 x37 x38 x39 x40 x41 x42 x43 x44
    obtain rfl : p = I.length := by simpa using hp
    have hnl : ¬ ((I.length : Int) < (I.length : Int)) := by omega
    have hF := hR.rv.flat
    have hK := kn_ok (P := Try.prog) (ty := 47) (Wg := Wg) (Base := Base) (Post := Post) N γ
    have h' := h γ u stv mv (by simpa [runR, runStill, runOut] using hR)
    rw [show ([] : List Nat).length + N + 1 = N + 1 by simp]
    simp only [L8o, L8i, E8i, E8, body8, Try.f8, Option.getD_some, T8] at h' ⊢
    refine kSeq hK hF (kRegion hK hF ?_)
    refine kOp closedS.bodies hK hF (val := .bool false) (by k_ne) rfl rfl (by kernel_rfl) (fun v₁ hv => by go_simp; try simp [hnl]) ?_
    walk_nrm
    refine kRegEnd hK hF (kSeq hK hF (kCond hK hF (t := false) (by rfl) ?_))
    simp only [Bool.false_eq_true, if_false]
    refine kExit hK hF (k' := _) (by rfl) ?_
    exact h' _ _ _ _ _ _ _ _ _ _ _ _ _ _ _ _ _ _ _ _ _ _ _ _ _ _ _ _ _ _ _ _ _ _ _ _
  | cons i l ih =>
    intro p hd hp γ u R S stv mv out hR hS ho h x0 x1 x8 x9 x10 x11 x12 x13 x14 x15 x16 x17 x18 x19 x20 x24 x25 x26 x27 x28 x29 x30 x31 x32 x33 x34 x35 x36 x37 x38 x39 x40 x41 x42 x43 x44
    have hK := kn_ok (P := Try.prog) (ty := 47) (Wg := Wg) (Base := Base) (Post := Post) (l.length + N + 1) γ
    rw [show (i :: l).length + N + 1 = l.length + N + 1 + 1 by simp only [List.length_cons]; omega]
    have hF := hR.rv.flat
    have hpI : p < I.length := by simp at hp; omega
    have hlt : (p : Int) < (I.length : Int) := by omega
    have hIp : I[p] = i := by
      have h1 := List.drop_eq_getElem_cons hpI
      rw [hd] at h1
      exact (List.cons.inj h1).1.symm
    have hin : i < M.length := hIn i (by rw [← hIp]; exact List.getElem_mem hpI)
    obtain ⟨Ao, oc, e1⟩ := own_form hR.hov
    subst e1
    obtain ⟨ad, y, e2, _, hy, hcell⟩ := (Reads.of_own hR.hov).at_ hpI
    subst e2
    have hy' : y = .chan (some (C i)) := by
      rw [chs, List.getElem?_map, List.getElem?_eq_getElem hpI, hIp] at hy
      exact (Option.some.inj hy).symm
    subst hy'
    simp only [L8o, L8i, E8i, E8, body8, Try.f8, Option.getD_some, T8] at ih h ⊢
    refine kSeq hK hF (kRegion hK hF ?_)
    refine kOp closedS.bodies hK hF (val := .bool true) (by k_ne) rfl rfl (by kernel_rfl) (fun v₁ hv => by go_simp; try simp [hlt]) ?_
    walk_nrm
    refine kRegEnd hK hF (kSeq hK hF (kCond hK hF (t := true) (by rfl) ?_))
    simp only [if_true]
    refine kSkip hK hF (kSeq hK hF (kBlock hK hF (kSeq hK hF (kRegion hK hF ?_))))
    refine kOp closedS.bodies hK hF (val := .pointer (some (ad.add p))) (by k_ne) rfl rfl (by kernel_rfl) (fun v₁ hv => by go_simp) ?_
    walk_nrm
    refine kOp closedS.bodies hK hF (val := .chan (some (C i))) (by k_ne) rfl rfl (by kernel_rfl) (fun v₁ hv => by have := cell_up hv hcell; go_simp) ?_
    walk_nrm
    refine kOp closedS.bodies hK hF (val := .chan (some (C i))) (by k_ne) rfl rfl (by kernel_rfl) (fun v₁ hv => by go_simp) ?_
    walk_nrm
    refine kRegEnd hK hF (kSeq hK hF (kRegion hK hF ?_))
    refine kOp closedS.bodies hK hF (val := .chan (some (C i))) (by k_ne) rfl rfl (by kernel_rfl) (fun v₁ hv => by go_simp) ?_
    walk_nrm
    refine kn_recv (n := l.length + N + 1) rfl rfl (by k_ne) rfl (w := i) (R := R i) (by rw [hR.rv.c i hin]; rfl) (by rw [hR.rv.j]; exact hin) (hR.rv.say i hin) (fun y l' hRi => ?_) (fun hRi => ?_)
    · have hK := kn_ok (P := Try.prog) (ty := 47) (Wg := Wg) (Base := Base) (Post := Post) (l.length + N) { γ with σ := upd γ.σ i (says l') }
      have hrv := hR.rv.heard i l'
      walk_nrm
      refine kOp closedS.bodies hK hF (val := .tuple #[.int .i64 y, .bool true]) (by k_ne) rfl rfl (by kernel_rfl) (fun v₁ hv => by go_simp) ?_
      walk_nrm
      refine kOp closedS.bodies hK hF (val := .int .i64 y) (by k_ne) rfl rfl (by kernel_rfl) (fun v₁ hv => by go_simp) ?_
      walk_nrm
      refine kOp closedS.bodies hK hF (val := .bool true) (by k_ne) rfl rfl (by kernel_rfl) (fun v₁ hv => by go_simp) ?_
      walk_nrm
      refine kOp closedS.bodies hK hF (val := .int .i64 y) (by k_ne) rfl rfl (by kernel_rfl) (fun v₁ hv => by go_simp) ?_
      walk_nrm
      refine kOp closedS.bodies hK hF (val := .bool true) (by k_ne) rfl rfl (by kernel_rfl) (fun v₁ hv => by go_simp) ?_
      walk_nrm
      refine kRegEnd hK hF (kSeq hK hF (kRegion hK hF ?_))
      refine kOp closedS.bodies hK hF (val := .bool true) (by k_ne) rfl rfl (by kernel_rfl) (fun v₁ hv => by go_simp) ?_
      walk_nrm
      refine kRegEnd hK hF (kCond hK hF (t := true) (by rfl) ?_)
      simp only [if_true]
      refine kSeq hK hF ?_
      refine kLift closedS hK hF (by kernel_rfl) (by k_ne) fun t1 => ?_
      obtain ⟨i0, hi, hz0, hz1, hz2⟩ := info_parts int_info
      have hmv : (u.re t1 0).ownsRow v.heap.size 3 1 mv out.length (ints out) := hR.hmv
      have hvu := hR.rv.size
      go_wp2_with (at_builtin; refine wpList_append_own_at _ rfl _ _ 25 rfl v.heap.size 3 i0 (.int .i64 0) 1 8 Try.underlying25 hi hz0 hz1 hz2 rfl (by decide) mv _ _ rfl (hmv.alloc _) ⟨(u.re t1 0).heap.size, 0, none⟩ 1 1 [.int .i64 y] rfl rfl (cell_one_new _ _ _) (by intro u hu; obtain rfl := List.mem_singleton.1 hu; rfl) ?_ ?_ ?_ ?_; (unfold maxLen; omega); omega; (simp [re_heap]; omega); intro mv' w3 hown' hgrow hnil hloc)
      refine fun hF3 _ => ?_
      have hR3 := (hR.re_ hrv).app_int hF3 hown' hgrow
      clear hmv hgrow hown' hloc hnil hi hz0 hz1 hz2
      refine kLift closedS hK hF3 (by kernel_rfl) (by k_ne) fun t2 => ?_
      obtain ⟨ic, hi, hz0, hz1, hz2⟩ := info_parts chan_info
      have hst : (w3.re t2 0).ownsRow v.heap.size 51 1 stv S.length (chs C S) := hR3.hst
      have hvu3 := hR3.rv.size
      go_wp2_with (at_builtin; refine wpList_append_own_at _ rfl _ _ 48 rfl v.heap.size 51 ic (.chan none) 1 8 Try.underlying48 hi hz0 hz1 hz2 rfl (by decide) stv _ _ rfl (hst.alloc _) ⟨(w3.re t2 0).heap.size, 0, none⟩ 1 1 [.chan (some (C i))] rfl rfl (cell_one_new _ _ _) (by intro u hu; obtain rfl := List.mem_singleton.1 hu; rfl) ?_ ?_ ?_ ?_; (unfold maxLen; omega); omega; (simp [re_heap]; omega); intro stv' w4 hown' hgrow hnil hloc)
      refine fun hF4 _ => ?_
      have hR4 := hR3.app_chan hF4 hown' hgrow hloc
      clear hst hgrow hown' hloc hnil hi hz0 hz1 hz2
      have hi64 : IntKind.i64.wrap ((p : Int) + 1) = ((p + 1 : Nat) : Int) := by rw [IntKind.wrap_i64]; omega
      refine kInBlock hK hF4 (kRegion hK hF4 ?_)
      refine kOp closedS.bodies hK hF4 (val := .int .i64 ((p + 1 : Nat) : Int)) (by k_ne) rfl rfl (by kernel_rfl) (fun v₁ hv => by go_simp; try simp [hi64]) ?_
      walk_nrm
      refine kOp closedS.bodies hK hF4 (val := .int .i64 ((p + 1 : Nat) : Int)) (by k_ne) rfl rfl (by kernel_rfl) (fun v₁ hv => by go_simp) ?_
      walk_nrm
      refine kRegEnd hK hF4 (kInLoop hK hF4 ?_)
      have h9 := ih (p + 1) (by rw [← List.drop_drop, hd]; rfl) (by simp only [List.length_cons] at hp; omega) _ _ _ _ _ _ _ hR4 (by simp; omega) (by simp only [List.length_cons] at ho; simp; omega) (fun γ' u' stv' mv' h' => h γ' u' stv' mv' (by simpa [runR, runStill, runOut, hRi] using h'))
      exact h9 _ _ _ _ _ _ _ _ _ _ _ _ _ _ _ _ _ _ _ _ _ _ _ _ _ _ _ _ _ _ _ _ _ _ _ _
    · have hK := kn_ok (P := Try.prog) (ty := 47) (Wg := Wg) (Base := Base) (Post := Post) (l.length + N) γ
      have hrv := hR.rv.same i [] hRi
      walk_nrm
      refine kOp closedS.bodies hK hF (val := .tuple #[.int .i64 0, .bool false]) (by k_ne) rfl rfl (by kernel_rfl) (fun v₁ hv => by go_simp) ?_
      walk_nrm
      refine kOp closedS.bodies hK hF (val := .int .i64 0) (by k_ne) rfl rfl (by kernel_rfl) (fun v₁ hv => by go_simp) ?_
      walk_nrm
      refine kOp closedS.bodies hK hF (val := .bool false) (by k_ne) rfl rfl (by kernel_rfl) (fun v₁ hv => by go_simp) ?_
      walk_nrm
      refine kOp closedS.bodies hK hF (val := .int .i64 0) (by k_ne) rfl rfl (by kernel_rfl) (fun v₁ hv => by go_simp) ?_
      walk_nrm
      refine kOp closedS.bodies hK hF (val := .bool false) (by k_ne) rfl rfl (by kernel_rfl) (fun v₁ hv => by go_simp) ?_
      walk_nrm
      refine kRegEnd hK hF (kSeq hK hF (kRegion hK hF ?_))
      refine kOp closedS.bodies hK hF (val := .bool false) (by k_ne) rfl rfl (by kernel_rfl) (fun v₁ hv => by go_simp) ?_
      walk_nrm
      refine kRegEnd hK hF (kCond hK hF (t := false) (by rfl) ?_)
      simp only [Bool.false_eq_true, if_false]
      refine kSkip hK hF ?_
      have hi64 : IntKind.i64.wrap ((p : Int) + 1) = ((p + 1 : Nat) : Int) := by rw [IntKind.wrap_i64]; omega
      refine kInBlock hK hF (kRegion hK hF ?_)
      refine kOp closedS.bodies hK hF (val := .int .i64 ((p + 1 : Nat) : Int)) (by k_ne) rfl rfl (by kernel_rfl) (fun v₁ hv => by go_simp; try simp [hi64]) ?_
      walk_nrm
      refine kOp closedS.bodies hK hF (val := .int .i64 ((p + 1 : Nat) : Int)) (by k_ne) rfl rfl (by kernel_rfl) (fun v₁ hv => by go_simp) ?_
      walk_nrm
      refine kRegEnd hK hF (kInLoop hK hF ?_)
      have h9 := ih (p + 1) (by rw [← List.drop_drop, hd]; rfl) (by simp only [List.length_cons] at hp; omega) _ _ _ _ _ _ _ (hR.re_ hrv) (by omega) (by simp only [List.length_cons] at ho; omega) (fun γ' u' stv' mv' h' => h γ' u' stv' mv' (by simpa [runR, runStill, runOut, hRi] using h'))
      exact h9 _ _ _ _ _ _ _ _ _ _ _ _ _ _ _ _ _ _ _ _ _ _ _ _ _ _ _ _ _ _ _ _ _ _ _ _
end
end Go.Proofs.Ytoimhdhplebhgaa
/-
  MergeAround's outer loop.
-/
namespace Go.Proofs.Ytoimhdhplebhgaa
open Go.Conc Go.RowKit Go.Conc.Lib Go.ConcR.Gen
open Go.ConcN (upd upd_same upd_ne)
open Go.ConcR (KK WgAt stA smA rd wr mk DC0)
set_option linter.unusedSimpArgs false
set_option linter.unusedVariables false

def outerOut : Nat → (Nat → List Int) → List Nat → List Int
  | 0, _, _ => []
  | d + 1, R, I => if I = [] then [] else runOut R I ++ outerOut d (runR R I) (runStill R I)
def outerN : Nat → (Nat → List Int) → List Nat → Nat
  | 0, _, _ => 0
  | d + 1, R, I => if I = [] then 0 else I.length + outerN d (runR R I) (runStill R I)
def outerEnds : Nat → (Nat → List Int) → List Nat → Prop
  | 0, _, I => I = []
  | d + 1, R, I => I = [] ∨ outerEnds d (runR R I) (runStill R I)
theorem runOut_len : ∀ (I : List Nat) (R : Nat → List Int), (runOut R I).length ≤ I.length
  | [], R => by simp [runOut]
  | i :: l, R => by
    have := runOut_len l (upd R i (R i).tail)
    have h1 : ((R i).take 1).length ≤ 1 := by simp; omega
    simp only [runOut, List.length_append, List.length_cons]
    omega
theorem runStill_len : ∀ (I : List Nat) (R : Nat → List Int), (runStill R I).length ≤ I.length
  | [], R => by simp [runStill]
  | i :: l, R => by
    have := runStill_len l (upd R i (R i).tail)
    simp only [runStill]
    split <;> simp only [List.length_cons] <;> omega
theorem runStill_mem : ∀ (I : List Nat) (R : Nat → List Int) (j : Nat), j ∈ runStill R I → j ∈ I
  | [], R, j => by simp [runStill]
  | i :: l, R, j => by
    have := runStill_mem l (upd R i (R i).tail) j
    simp only [runStill]
    split
    · exact fun h => List.mem_cons_of_mem _ (this h)
    · intro h
      rcases List.mem_cons.1 h with rfl | h
      · exact List.mem_cons_self
      · exact List.mem_cons_of_mem _ (this h)
theorem runR_empty : ∀ (I : List Nat) (R : Nat → List Int) (i : Nat), (i ∉ I → R i = []) → i ∉ runStill R I → runR R I i = []
  | [], R, i, h, hi => h (by simp)
  | j :: l, R, i, h, hi => by
    have ih := runR_empty l (upd R j (R j).tail) i
    simp only [runStill] at hi
    by_cases hj : R j = []
    · rw [if_pos hj] at hi
      refine ih (fun hk => ?_) hi
      by_cases e : i = j
      · subst e; rw [upd_same, hj]; rfl
      · rw [upd_ne _ _ e]; exact h (by simp [e, hk])
    · rw [if_neg hj] at hi
      simp only [List.mem_cons, not_or] at hi
      refine ih (fun hk => ?_) hi.2
      rw [upd_ne _ _ hi.1]; exact h (by simp [hi.1, hk])
def T8o (wgp ov mv : Value) (x0 x1 x7 x8 x9 x10 x11 x12 x13 x14 x15 x16 x17 x18 x19 x20 x21 x22 x23 x24 x25 x26 x27 x28 x29 x30 x31 x32 x33 x34 x35 x36 x37 x38 x39 x40 x41 x42 x43 x44 : Value) : Array Value :=
  #[x0, x1, .slice none 0 0, .bool false, wgp, ov, mv, x7, x8, x9, x10, x11, x12, x13, x14, x15, x16, x17, x18, x19, x20, x21, x22, x23, x24, x25, x26, x27, x28, x29, x30, x31, x32, x33, x34, x35, x36, x37, x38, x39, x40, x41, x42, x43, x44]
section
variable {Base : Bs} {Post : Value → World → Prop} {v : World} {Wg : Nat} {V : List Value} {M : List (List Int)} {C : Nat → Nat} {wgp : Value}
set_option maxRecDepth 100000 in
set_option maxHeartbeats 4000000 in
theorem around_outer {N : Nat} {cs : List Frame} (out0 : List Int)
    (h : ∀ γ u R mv, Rv v V M C R γ u → (∀ i, R i = []) → u.ownsRow v.heap.size 3 1 mv out0.length (ints out0) → ∀ ov x0 x1 x7 x8 x9 x10 x11 x12 x13 x14 x15 x16 x17 x18 x19 x20 x21 x22 x23 x24 x25 x26 x27 x28 x29 x30 x31 x32 x33 x34 x35 x36 x37 x38 x39 x40 x41 x42 x43 x44, KA (MNext Try.prog 47 Wg true Base Post (N + 1) γ) (G ((Conc.base 8).at ⟨T8o wgp ov mv x0 x1 x7 x8 x9 x10 x11 x12 x13 x14 x15 x16 x17 x18 x19 x20 x21 x22 x23 x24 x25 x26 x27 x28 x29 x30 x31 x32 x33 x34 x35 x36 x37 x38 x39 x40 x41 x42 x43 x44, []⟩ [.code E8]) cs) u) :
    ∀ (d : Nat) (R : Nat → List Int) (I : List Nat), outerEnds d R I → I.length ≤ 100 → (∀ i ∈ I, i < M.length) → (∀ i, i ∉ I → R i = []) → ∀ γ u ov mv out, Rv v V M C R γ u → u.ownsRow v.heap.size 51 1 ov I.length (chs C I) → u.ownsRow v.heap.size 3 1 mv out.length (ints out) →
      out ++ outerOut d R I = out0 → out.length + outerN d R I ≤ 100000 → ∀ x0 x1 x7 x8 x9 x10 x11 x12 x13 x14 x15 x16 x17 x18 x19 x20 x21 x22 x23 x24 x25 x26 x27 x28 x29 x30 x31 x32 x33 x34 x35 x36 x37 x38 x39 x40 x41 x42 x43 x44, KA (MNext Try.prog 47 Wg true Base Post (outerN d R I + N + 1) γ) (G ((Conc.base 8).at ⟨T8o wgp ov mv x0 x1 x7 x8 x9 x10 x11 x12 x13 x14 x15 x16 x17 x18 x19 x20 x21 x22 x23 x24 x25 x26 x27 x28 x29 x30 x31 x32 x33 x34 x35 x36 x37 x38 x39 x40 x41 x42 x43 x44, []⟩ [.code L8o, .inLoop L8o, .inBlock 0, .code E8]) cs) u := by
  have fin : ∀ γ u R mv, Rv v V M C R γ u → (∀ i, R i = []) → u.ownsRow v.heap.size 3 1 mv out0.length (ints out0) → ∀ ov, u.ownsRow v.heap.size 51 1 ov 0 [] → ∀ x0 x1 x7 x8 x9 x10 x11 x12 x13 x14 x15 x16 x17 x18 x19 x20 x21 x22 x23 x24 x25 x26 x27 x28 x29 x30 x31 x32 x33 x34 x35 x36 x37 x38 x39 x40 x41 x42 x43 x44, KA (MNext Try.prog 47 Wg true Base Post (N + 1) γ) (G ((Conc.base 8).at ⟨T8o wgp ov mv x0 x1 x7 x8 x9 x10 x11 x12 x13 x14 x15 x16 x17 x18 x19 x20 x21 x22 x23 x24 x25 x26 x27 x28 x29 x30 x31 x32 x33 x34 x35 x36 x37 x38 x39 x40 x41 x42 x43 x44, []⟩ [.code L8o, .inLoop L8o, .inBlock 0, .code E8]) cs) u := by
    intro γ u R mv hR hE hmv ov hov x0 x1 x7 x8 x9 x10 x11 x12 x13 x14 x15 x16 x17 x18 x19 x20 x21 x22 x23 x24 x25 x26 x27 x28 x29 x30 x31 x32 x33 x34 x35 x36 x37 x38 x39 x40 x41 x42 x43 x44
    have hF := hR.flat
    have hK := kn_ok (P := Try.prog) (ty := 47) (Wg := Wg) (Base := Base) (Post := Post) N γ
    have h' := h γ u R mv hR hE hmv
    obtain ⟨Ao, oc, e1⟩ := own_form hov
    subst e1
    simp only [L8o, E8, body8, Try.f8, Option.getD_some, T8o] at h' ⊢
    refine kSeq hK hF (kSeq hK hF (kRegion hK hF ?_))
    refine kOp closedS.bodies hK hF (val := .slice Ao 0 oc) (by k_ne) rfl rfl (by kernel_rfl) (fun v₁ hv => by go_simp) ?_
    walk_nrm
    refine kOp closedS.bodies hK hF (val := .int .i64 0) (by k_ne) rfl rfl (by kernel_rfl) (fun v₁ hv => by go_simp) ?_
    walk_nrm
    refine kOp closedS.bodies hK hF (val := .bool false) (by k_ne) rfl rfl (by kernel_rfl) (fun v₁ hv => by go_simp) ?_
    walk_nrm
    refine kRegEnd hK hF (kCond hK hF (t := false) (by rfl) ?_)
    simp only [Bool.false_eq_true, if_false]
    refine kExit hK hF (k' := _) (by rfl) ?_
    exact h' _ _ _ _ _ _ _ _ _ _ _ _ _ _ _ _ _ _ _ _ _ _ _ _ _ _ _ _ _ _ _ _ _ _ _ _ _ _ _ _ _
  intro d
  induction d with
  | zero =>
    intro R I hE hI hIn hRe γ u ov mv out hR hov hmv ho hb x0 x1 x7 x8 x9 x10 x11 x12 x13 x14 x15 x16 x17 x18 x19 x20 x21 x22 x23 x24 x25 x26 x27 x28 x29 x30 x31 x32 x33 x34 x35 x36 x37 x38 x39 x40 x41 x42 x43 x44
    have hE' : I = [] := hE
    subst hE'
    rw [show outerN 0 R [] + N + 1 = N + 1 by simp [outerN]]
    have ho' : out = out0 := by simpa [outerOut] using ho
    subst ho'
    exact fin γ u R mv hR (fun i => hRe i (by simp)) hmv ov hov _ _ _ _ _ _ _ _ _ _ _ _ _ _ _ _ _ _ _ _ _ _ _ _ _ _ _ _ _ _ _ _ _ _ _ _ _ _ _ _
  | succ d ih =>
    intro R I hE hI hIn hRe γ u ov mv out hR hov hmv ho hb x0 x1 x7 x8 x9 x10 x11 x12 x13 x14 x15 x16 x17 x18 x19 x20 x21 x22 x23 x24 x25 x26 x27 x28 x29 x30 x31 x32 x33 x34 x35 x36 x37 x38 x39 x40 x41 x42 x43 x44
    by_cases hI0 : I = []
    · subst hI0
      rw [show outerN (d + 1) R [] + N + 1 = N + 1 by simp [outerN]]
      have ho' : out = out0 := by simpa [outerOut] using ho
      subst ho'
      exact fin γ u R mv hR (fun i => hRe i (by simp)) hmv ov hov _ _ _ _ _ _ _ _ _ _ _ _ _ _ _ _ _ _ _ _ _ _ _ _ _ _ _ _ _ _ _ _ _ _ _ _ _ _ _ _
    · have hE' : outerEnds d (runR R I) (runStill R I) := hE.resolve_left hI0
      have hN : outerN (d + 1) R I = I.length + outerN d (runR R I) (runStill R I) := by simp [outerN, hI0]
      have hO : outerOut (d + 1) R I = runOut R I ++ outerOut d (runR R I) (runStill R I) := by simp [outerOut, hI0]
      have hpos : 0 < I.length := List.length_pos_iff.2 hI0
      have hlt : (0 : Int) < (I.length : Int) := by omega
      rw [hN] at hb ⊢
      rw [hO, ← List.append_assoc] at ho
      have hrl := runOut_len I R
      have hF := hR.flat
      rw [show I.length + outerN d (runR R I) (runStill R I) + N + 1 = I.length + (outerN d (runR R I) (runStill R I) + N) + 1 by omega]
      have hK := kn_ok (P := Try.prog) (ty := 47) (Wg := Wg) (Base := Base) (Post := Post) (I.length + (outerN d (runR R I) (runStill R I) + N)) γ
      have hin := around_inner (Base := Base) (Post := Post) (Wg := Wg) (wgp := wgp) (N := outerN d (runR R I) (runStill R I) + N) (cs := cs) (ov := ov) hI hIn I 0 rfl (by omega) γ u R [] (.slice none 0 0) mv out ⟨hR, hov, World.ownsRow_nil _ _ _ _, hmv, fun b hb => by simp [Value.ownBlock] at hb⟩ (Nat.zero_le _) (by omega) (fun γ' u' stv' mv' hR' => ?_)
      · obtain ⟨Ao, oc, e1⟩ := own_form hov
        subst e1
        simp only [L8o, L8i, E8i, E8, body8, Try.f8, Option.getD_some, T8o, T8] at hin ⊢
        refine kSeq hK hF (kSeq hK hF (kRegion hK hF ?_))
        refine kOp closedS.bodies hK hF (val := .slice Ao I.length oc) (by k_ne) rfl rfl (by kernel_rfl) (fun v₁ hv => by go_simp) ?_
        walk_nrm
        refine kOp closedS.bodies hK hF (val := .int .i64 I.length) (by k_ne) rfl rfl (by kernel_rfl) (fun v₁ hv => by go_simp) ?_
        walk_nrm
        refine kOp closedS.bodies hK hF (val := .bool true) (by k_ne) rfl rfl (by kernel_rfl) (fun v₁ hv => by go_simp; try simp [hlt, hI0]) ?_
        walk_nrm
        refine kRegEnd hK hF (kCond hK hF (t := true) (by rfl) ?_)
        simp only [if_true]
        refine kSkip hK hF (kBlock hK hF (kSeq hK hF (kRegion hK hF ?_)))
        refine kOp closedS.bodies hK hF (val := .slice none 0 0) (by k_ne) rfl rfl (by kernel_rfl) (fun v₁ hv => by go_simp) ?_
        walk_nrm
        refine kRegEnd hK hF (kSeq hK hF (kSeq hK hF (kRegion hK hF ?_)))
        refine kOp closedS.bodies hK hF (val := .slice Ao I.length oc) (by k_ne) rfl rfl (by kernel_rfl) (fun v₁ hv => by go_simp) ?_
        walk_nrm
        refine kOp closedS.bodies hK hF (val := .int .i64 I.length) (by k_ne) rfl rfl (by kernel_rfl) (fun v₁ hv => by go_simp) ?_
        walk_nrm
        refine kOp closedS.bodies hK hF (val := .int .i64 (0 : Nat)) (by k_ne) rfl rfl (by kernel_rfl) (fun v₁ hv => by go_simp) ?_
        walk_nrm
        refine kRegEnd hK hF (kBlock hK hF (kLoop hK hF ?_))
        exact hin _ _ _ _ _ _ _ _ _ _ _ _ _ _ _ _ _ _ _ _ _ _ _ _ _ _ _ _ _ _ _ _ _ _ _ _
      · intro x0 x1 x8 x9 x10 x11 x12 x13 x14 x15 x16 x17 x18 x19 x20 x24 x25 x26 x27 x28 x29 x30 x31 x32 x33 x34 x35 x36 x37 x38 x39 x40 x41 x42 x43 x44
        have hF' := hR'.rv.flat
        have hK' := kn_ok (P := Try.prog) (ty := 47) (Wg := Wg) (Base := Base) (Post := Post) (outerN d (runR R I) (runStill R I) + N) γ'
        have h9 := ih (runR R I) (runStill R I) hE' (by have := runStill_len I R; omega) (fun i hi => hIn i (runStill_mem I R i hi)) (fun i => runR_empty I R i (hRe i)) γ' u' stv' mv' _ hR'.rv hR'.hst hR'.hmv ho (by rw [List.length_append]; omega)
        simp only [L8o, L8i, E8i, E8, body8, Try.f8, Option.getD_some, T8o, T8] at h9 ⊢
        refine kRegion hK' hF' ?_
        refine kOp closedS.bodies hK' hF' (val := stv') (by k_ne) rfl rfl (by kernel_rfl) (fun v₁ hv => by go_simp) ?_
        walk_nrm
        refine kOp closedS.bodies hK' hF' (val := stv') (by k_ne) rfl rfl (by kernel_rfl) (fun v₁ hv => by go_simp) ?_
        walk_nrm
        refine kRegEnd hK' hF' (kInBlock hK' hF' (kInLoop hK' hF' ?_))
        exact h9 _ _ _ _ _ _ _ _ _ _ _ _ _ _ _ _ _ _ _ _ _ _ _ _ _ _ _ _ _ _ _ _ _ _ _ _ _ _ _ _
end
end Go.Proofs.Ytoimhdhplebhgaa
