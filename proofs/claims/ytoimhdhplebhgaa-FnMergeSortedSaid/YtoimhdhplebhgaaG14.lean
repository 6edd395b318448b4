/-
  MergeSorted's first loop: the first number of each worker that has one.
-/
import Derived.Test.YtoimhdhplebhgaaG9
import Derived.Test.YtoimhdhplebhgaaG12
import Derived.Test.YtoimhdhplebhgaaKDel
namespace Go.Proofs.Ytoimhdhplebhgaa
open Go.Conc Go.RowKit Go.Conc.Lib Go.ConcR.Gen
open Go.ConcN (upd upd_same upd_ne)
open Go.ConcR (KK WgAt stA smA rd wr mk DC0)
set_option linter.unusedSimpArgs false
set_option linter.unusedVariables false

noncomputable def body19 : Code := Try.f19.body.getD .skip
noncomputable def E19 : Code := match body19 with | .seq _ (.seq _ (.seq _ (.seq _ (.seq _ (.seq _ (.seq _ c)))))) => c | _ => .skip
noncomputable def L19 : Code := match body19 with | .seq _ (.seq _ (.seq _ (.seq _ (.seq _ (.seq _ (.seq (.seq _ (.block _ (.loop c))) _)))))) => c | _ => .skip
def T19 (wgp ov mv stv : Value) (n p : Nat) (x0 x1 x4 x5 x9 x10 x11 x12 x13 x14 x15 x16 x17 x18 x19 x20 x21 x22 x23 x24 x25 x26 x27 x28 x29 x30 x31 x32 x36 x37 x38 x39 x40 x41 x42 x43 x44 x45 x46 x47 x48 x49 x50 x51 x52 x53 x54 x55 x56 x57 x58 x59 x60 x61 x62 x63 x64 x65 x66 x67 x68 x69 x70 x71 x72 x73 x74 x75 x76 x77 x78 x79 x80 x81 x82 x83 x84 x85 x86 x87 x88 x89 x90 x91 x92 x93 x94 x95 x96 x97 x98 x99 x100 x101 x102 x103 x104 : Value) : Array Value :=
  #[x0, x1, .slice none 0 0, .bool false, x4, x5, wgp, stv, mv, x9, x10, x11, x12, x13, x14, x15, x16, x17, x18, x19, x20, x21, x22, x23, x24, x25, x26, x27, x28, x29, x30, x31, x32, ov, .int .i64 n, .int .i64 p, x36, x37, x38, x39, x40, x41, x42, x43, x44, x45, x46, x47, x48, x49, x50, x51, x52, x53, x54, x55, x56, x57, x58, x59, x60, x61, x62, x63, x64, x65, x66, x67, x68, x69, x70, x71, x72, x73, x74, x75, x76, x77, x78, x79, x80, x81, x82, x83, x84, x85, x86, x87, x88, x89, x90, x91, x92, x93, x94, x95, x96, x97, x98, x99, x100, x101, x102, x103, x104]
section
variable {Base : Bs} {Post : Value → World → Prop} {v : World} {Wg : Nat} {V : List Value} {M : List (List Int)} {C : Nat → Nat} {I : List Nat} {ov wgp : Value}
set_option maxRecDepth 100000 in
set_option maxHeartbeats 16000000 in
theorem sorted_first {N : Nat} {cs : List Frame} (hI : I.length ≤ 100) (hIn : ∀ i ∈ I, i < M.length) :
    ∀ (l : List Nat) (p : Nat), I.drop p = l → p + l.length = I.length → ∀ γ u R S stv mv out, Rin v V M C I ov γ R stv mv S out u → S.length ≤ p → out.length + l.length ≤ 100000 →
      (∀ γ' u' stv' mv', Rin v V M C I ov γ' (runR R l) stv' mv' (S ++ runStill R l) (out ++ runOut R l) u' → ∀ x0 x1 x4 x5 x9 x10 x11 x12 x13 x14 x15 x16 x17 x18 x19 x20 x21 x22 x23 x24 x25 x26 x27 x28 x29 x30 x31 x32 x36 x37 x38 x39 x40 x41 x42 x43 x44 x45 x46 x47 x48 x49 x50 x51 x52 x53 x54 x55 x56 x57 x58 x59 x60 x61 x62 x63 x64 x65 x66 x67 x68 x69 x70 x71 x72 x73 x74 x75 x76 x77 x78 x79 x80 x81 x82 x83 x84 x85 x86 x87 x88 x89 x90 x91 x92 x93 x94 x95 x96 x97 x98 x99 x100 x101 x102 x103 x104, KA (MNext Try.prog 47 Wg true Base Post (N + 1) γ') (G ((Conc.base 19).at ⟨T19 wgp ov mv' stv' I.length I.length x0 x1 x4 x5 x9 x10 x11 x12 x13 x14 x15 x16 x17 x18 x19 x20 x21 x22 x23 x24 x25 x26 x27 x28 x29 x30 x31 x32 x36 x37 x38 x39 x40 x41 x42 x43 x44 x45 x46 x47 x48 x49 x50 x51 x52 x53 x54 x55 x56 x57 x58 x59 x60 x61 x62 x63 x64 x65 x66 x67 x68 x69 x70 x71 x72 x73 x74 x75 x76 x77 x78 x79 x80 x81 x82 x83 x84 x85 x86 x87 x88 x89 x90 x91 x92 x93 x94 x95 x96 x97 x98 x99 x100 x101 x102 x103 x104, []⟩ [.code E19]) cs) u') → ∀ x0 x1 x4 x5 x9 x10 x11 x12 x13 x14 x15 x16 x17 x18 x19 x20 x21 x22 x23 x24 x25 x26 x27 x28 x29 x30 x31 x32 x36 x37 x38 x39 x40 x41 x42 x43 x44 x45 x46 x47 x48 x49 x50 x51 x52 x53 x54 x55 x56 x57 x58 x59 x60 x61 x62 x63 x64 x65 x66 x67 x68 x69 x70 x71 x72 x73 x74 x75 x76 x77 x78 x79 x80 x81 x82 x83 x84 x85 x86 x87 x88 x89 x90 x91 x92 x93 x94 x95 x96 x97 x98 x99 x100 x101 x102 x103 x104,
      KA (MNext Try.prog 47 Wg true Base Post (l.length + N + 1) γ) (G ((Conc.base 19).at ⟨T19 wgp ov mv stv I.length p x0 x1 x4 x5 x9 x10 x11 x12 x13 x14 x15 x16 x17 x18 x19 x20 x21 x22 x23 x24 x25 x26 x27 x28 x29 x30 x31 x32 x36 x37 x38 x39 x40 x41 x42 x43 x44 x45 x46 x47 x48 x49 x50 x51 x52 x53 x54 x55 x56 x57 x58 x59 x60 x61 x62 x63 x64 x65 x66 x67 x68 x69 x70 x71 x72 x73 x74 x75 x76 x77 x78 x79 x80 x81 x82 x83 x84 x85 x86 x87 x88 x89 x90 x91 x92 x93 x94 x95 x96 x97 x98 x99 x100 x101 x102 x103 x104, []⟩ [.code L19, .inLoop L19, .inBlock 2, .code E19]) cs) u := by
  intro l
  induction l with
  | nil =>
    intro p hd hp γ u R S stv mv out hR hS ho h x0 x1 x4 x5 x9 x10 x11 x12 x13 x14 x15 x16 x17 x18 x19 x20 x21 x22 x23 x24 x25 x26 x27 x28 x29 x30 x31 x32 x36 x37 x38 x39 x40 x41 x42 x43 x44 x45 x46 x47 x48 x49 x50 x51 x52 x53 x54 x55 x56 x57 x58 x59 x60 x61 x62 x63 x64 x65 x66 x67 x68 x69 x70 x71 x72 x73 x74 x75 x76 x77 x78 x79 x80 x81 x82 x83 x84 x85 x86 x87 x88 x89 x90 x91 x92 x93 x94 x95 x96 x97 x98 x99 x100 x101 x102 x103 x104
    obtain rfl : p = I.length := by simpa using hp
    have hnl : ¬ ((I.length : Int) < (I.length : Int)) := by omega
    have hF := hR.rv.flat
    have hK := kn_ok (P := Try.prog) (ty := 47) (Wg := Wg) (Base := Base) (Post := Post) N γ
    have h' := h γ u stv mv (by simpa [runR, runStill, runOut] using hR)
    rw [show ([] : List Nat).length + N + 1 = N + 1 by simp]
    simp only [L19, E19, body19, Try.f19, Option.getD_some, T19] at h' ⊢
    refine kSeq hK hF (kRegion hK hF ?_)
    refine kOp closedS.bodies hK hF (val := .bool false) (by k_ne) rfl rfl (by kernel_rfl) (fun v₁ hv => by go_simp; try simp [hnl]) ?_
    walk_nrm
    refine kRegEnd hK hF (kSeq hK hF (kCond hK hF (t := false) (by rfl) ?_))
    simp only [Bool.false_eq_true, if_false]
    refine kExit hK hF (k' := _) (by rfl) ?_
    exact h' _ _ _ _ _ _ _ _ _ _ _ _ _ _ _ _ _ _ _ _ _ _ _ _ _ _ _ _ _ _ _ _ _ _ _ _ _ _ _ _ _ _ _ _ _ _ _ _ _ _ _ _ _ _ _ _ _ _ _ _ _ _ _ _ _ _ _ _ _ _ _ _ _ _ _ _ _ _ _ _ _ _ _ _ _ _ _ _ _ _ _ _ _ _ _ _ _
  | cons i l ih =>
    intro p hd hp γ u R S stv mv out hR hS ho h x0 x1 x4 x5 x9 x10 x11 x12 x13 x14 x15 x16 x17 x18 x19 x20 x21 x22 x23 x24 x25 x26 x27 x28 x29 x30 x31 x32 x36 x37 x38 x39 x40 x41 x42 x43 x44 x45 x46 x47 x48 x49 x50 x51 x52 x53 x54 x55 x56 x57 x58 x59 x60 x61 x62 x63 x64 x65 x66 x67 x68 x69 x70 x71 x72 x73 x74 x75 x76 x77 x78 x79 x80 x81 x82 x83 x84 x85 x86 x87 x88 x89 x90 x91 x92 x93 x94 x95 x96 x97 x98 x99 x100 x101 x102 x103 x104
    have hK := kn_ok (P := Try.prog) (ty := 47) (Wg := Wg) (Base := Base) (Post := Post) (l.length + N + 1) γ
    rw [show (i :: l).length + N + 1 = l.length + N + 1 + 1 by simp only [List.length_cons]; omega]
    have hF := hR.rv.flat
    have hpI : p < I.length := by simp at hp; omega
    have hlt : (p : Int) < (I.length : Int) := by omega
    have hIp : I[p] = i := by
      have h1 := List.drop_eq_getElem_cons hpI
      rw [hd] at h1
      exact (List.cons.inj h1).1.symm
    have hin : i < M.length := hIn i (by rw [← hIp]; exact List.getElem_mem hpI)
    obtain ⟨Ao, oc, e1⟩ := own_form hR.hov
    subst e1
    obtain ⟨ad, y, e2, _, hy, hcell⟩ := (Reads.of_own hR.hov).at_ hpI
    subst e2
    have hy' : y = .chan (some (C i)) := by
      rw [chs, List.getElem?_map, List.getElem?_eq_getElem hpI, hIp] at hy
      exact (Option.some.inj hy).symm
    subst hy'
    simp only [L19, E19, body19, Try.f19, Option.getD_some, T19] at ih h ⊢
    refine kSeq hK hF (kRegion hK hF ?_)
    refine kOp closedS.bodies hK hF (val := .bool true) (by k_ne) rfl rfl (by kernel_rfl) (fun v₁ hv => by go_simp; try simp [hlt]) ?_
    walk_nrm
    refine kRegEnd hK hF (kSeq hK hF (kCond hK hF (t := true) (by rfl) ?_))
    simp only [if_true]
    refine kSkip hK hF (kSeq hK hF (kBlock hK hF (kSeq hK hF (kRegion hK hF ?_))))
    refine kOp closedS.bodies hK hF (val := .pointer (some (ad.add p))) (by k_ne) rfl rfl (by kernel_rfl) (fun v₁ hv => by go_simp) ?_
    walk_nrm
    refine kOp closedS.bodies hK hF (val := .chan (some (C i))) (by k_ne) rfl rfl (by kernel_rfl) (fun v₁ hv => by have := cell_up hv hcell; go_simp) ?_
    walk_nrm
    refine kOp closedS.bodies hK hF (val := .chan (some (C i))) (by k_ne) rfl rfl (by kernel_rfl) (fun v₁ hv => by go_simp) ?_
    walk_nrm
    refine kRegEnd hK hF (kSeq hK hF (kRegion hK hF ?_))
    refine kOp closedS.bodies hK hF (val := .chan (some (C i))) (by k_ne) rfl rfl (by kernel_rfl) (fun v₁ hv => by go_simp) ?_
    walk_nrm
    refine kn_recv (n := l.length + N + 1) rfl rfl (by k_ne) rfl (w := i) (R := R i) (by rw [hR.rv.c i hin]; rfl) (by rw [hR.rv.j]; exact hin) (hR.rv.say i hin) (fun y l' hRi => ?_) (fun hRi => ?_)
    · have hK := kn_ok (P := Try.prog) (ty := 47) (Wg := Wg) (Base := Base) (Post := Post) (l.length + N) { γ with σ := upd γ.σ i (says l') }
      have hrv := hR.rv.heard i l'
      walk_nrm
      refine kOp closedS.bodies hK hF (val := .tuple #[.int .i64 y, .bool true]) (by k_ne) rfl rfl (by kernel_rfl) (fun v₁ hv => by go_simp) ?_
      walk_nrm
      refine kOp closedS.bodies hK hF (val := .int .i64 y) (by k_ne) rfl rfl (by kernel_rfl) (fun v₁ hv => by go_simp) ?_
      walk_nrm
      refine kOp closedS.bodies hK hF (val := .bool true) (by k_ne) rfl rfl (by kernel_rfl) (fun v₁ hv => by go_simp) ?_
      walk_nrm
      refine kOp closedS.bodies hK hF (val := .int .i64 y) (by k_ne) rfl rfl (by kernel_rfl) (fun v₁ hv => by go_simp) ?_
      walk_nrm
      refine kOp closedS.bodies hK hF (val := .bool true) (by k_ne) rfl rfl (by kernel_rfl) (fun v₁ hv => by go_simp) ?_
      walk_nrm
      refine kRegEnd hK hF (kSeq hK hF (kRegion hK hF ?_))
      refine kOp closedS.bodies hK hF (val := .bool true) (by k_ne) rfl rfl (by kernel_rfl) (fun v₁ hv => by go_simp) ?_
      walk_nrm
      refine kRegEnd hK hF (kCond hK hF (t := true) (by rfl) ?_)
      simp only [if_true]
      refine kSeq hK hF ?_
      refine kLift closedS hK hF (by kernel_rfl) (by k_ne) fun t1 => ?_
      obtain ⟨ic, hi, hz0, hz1, hz2⟩ := info_parts chan_info
      have hst : (u.re t1 0).ownsRow v.heap.size 51 1 stv S.length (chs C S) := hR.hst
      have hvu := hR.rv.size
      go_wp2_with (at_builtin; refine wpList_append_own_at _ rfl _ _ 48 rfl v.heap.size 51 ic (.chan none) 1 8 Try.underlying48 hi hz0 hz1 hz2 rfl (by decide) stv _ _ rfl (hst.alloc _) ⟨(u.re t1 0).heap.size, 0, none⟩ 1 1 [.chan (some (C i))] rfl rfl (cell_one_new _ _ _) (by intro u hu; obtain rfl := List.mem_singleton.1 hu; rfl) ?_ ?_ ?_ ?_; (unfold maxLen; omega); omega; (simp [re_heap]; omega); intro stv' w3 hown' hgrow hnil hloc)
      refine fun hF3 _ => ?_
      have hR3 := (hR.re_ hrv).app_chan hF3 hown' hgrow hloc
      clear hst hgrow hown' hloc hnil hi hz0 hz1 hz2
      refine kLift closedS hK hF3 (by kernel_rfl) (by k_ne) fun t2 => ?_
      obtain ⟨i0, hi, hz0, hz1, hz2⟩ := info_parts int_info
      have hmv : (w3.re t2 0).ownsRow v.heap.size 3 1 mv out.length (ints out) := hR3.hmv
      have hvu3 := hR3.rv.size
      go_wp2_with (at_builtin; refine wpList_append_own_at _ rfl _ _ 25 rfl v.heap.size 3 i0 (.int .i64 0) 1 8 Try.underlying25 hi hz0 hz1 hz2 rfl (by decide) mv _ _ rfl (hmv.alloc _) ⟨(w3.re t2 0).heap.size, 0, none⟩ 1 1 [.int .i64 y] rfl rfl (cell_one_new _ _ _) (by intro u hu; obtain rfl := List.mem_singleton.1 hu; rfl) ?_ ?_ ?_ ?_; (unfold maxLen; omega); omega; (simp [re_heap]; omega); intro mv' w4 hown' hgrow hnil hloc)
      refine fun hF4 _ => ?_
      have hR4 := hR3.app_int hF4 hown' hgrow
      clear hmv hgrow hown' hloc hnil hi hz0 hz1 hz2
      have hi64 : IntKind.i64.wrap ((p : Int) + 1) = ((p + 1 : Nat) : Int) := by rw [IntKind.wrap_i64]; omega
      refine kInBlock hK hF4 (kRegion hK hF4 ?_)
      refine kOp closedS.bodies hK hF4 (val := .int .i64 ((p + 1 : Nat) : Int)) (by k_ne) rfl rfl (by kernel_rfl) (fun v₁ hv => by go_simp; try simp [hi64]) ?_
      walk_nrm
      refine kOp closedS.bodies hK hF4 (val := .int .i64 ((p + 1 : Nat) : Int)) (by k_ne) rfl rfl (by kernel_rfl) (fun v₁ hv => by go_simp) ?_
      walk_nrm
      refine kRegEnd hK hF4 (kInLoop hK hF4 ?_)
      have h9 := ih (p + 1) (by rw [← List.drop_drop, hd]; rfl) (by simp only [List.length_cons] at hp; omega) _ _ _ _ _ _ _ hR4 (by simp; omega) (by simp only [List.length_cons] at ho; simp; omega) (fun γ' u' stv' mv' h' => h γ' u' stv' mv' (by simpa [runR, runStill, runOut, hRi] using h'))
      exact h9 _ _ _ _ _ _ _ _ _ _ _ _ _ _ _ _ _ _ _ _ _ _ _ _ _ _ _ _ _ _ _ _ _ _ _ _ _ _ _ _ _ _ _ _ _ _ _ _ _ _ _ _ _ _ _ _ _ _ _ _ _ _ _ _ _ _ _ _ _ _ _ _ _ _ _ _ _ _ _ _ _ _ _ _ _ _ _ _ _ _ _ _ _ _ _ _ _
    · have hK := kn_ok (P := Try.prog) (ty := 47) (Wg := Wg) (Base := Base) (Post := Post) (l.length + N) γ
      have hrv := hR.rv.same i [] hRi
      walk_nrm
      refine kOp closedS.bodies hK hF (val := .tuple #[.int .i64 0, .bool false]) (by k_ne) rfl rfl (by kernel_rfl) (fun v₁ hv => by go_simp) ?_
      walk_nrm
      refine kOp closedS.bodies hK hF (val := .int .i64 0) (by k_ne) rfl rfl (by kernel_rfl) (fun v₁ hv => by go_simp) ?_
      walk_nrm
      refine kOp closedS.bodies hK hF (val := .bool false) (by k_ne) rfl rfl (by kernel_rfl) (fun v₁ hv => by go_simp) ?_
      walk_nrm
      refine kOp closedS.bodies hK hF (val := .int .i64 0) (by k_ne) rfl rfl (by kernel_rfl) (fun v₁ hv => by go_simp) ?_
      walk_nrm
      refine kOp closedS.bodies hK hF (val := .bool false) (by k_ne) rfl rfl (by kernel_rfl) (fun v₁ hv => by go_simp) ?_
      walk_nrm
      refine kRegEnd hK hF (kSeq hK hF (kRegion hK hF ?_))
      refine kOp closedS.bodies hK hF (val := .bool false) (by k_ne) rfl rfl (by kernel_rfl) (fun v₁ hv => by go_simp) ?_
      walk_nrm
      refine kRegEnd hK hF (kCond hK hF (t := false) (by rfl) ?_)
      simp only [Bool.false_eq_true, if_false]
      refine kSkip hK hF ?_
      have hi64 : IntKind.i64.wrap ((p : Int) + 1) = ((p + 1 : Nat) : Int) := by rw [IntKind.wrap_i64]; omega
      refine kInBlock hK hF (kRegion hK hF ?_)
      refine kOp closedS.bodies hK hF (val := .int .i64 ((p + 1 : Nat) : Int)) (by k_ne) rfl rfl (by kernel_rfl) (fun v₁ hv => by go_simp; try simp [hi64]) ?_
      walk_nrm
      refine kOp closedS.bodies hK hF (val := .int .i64 ((p + 1 : Nat) : Int)) (by k_ne) rfl rfl (by kernel_rfl) (fun v₁ hv => by go_simp) ?_
      walk_nrm
      refine kRegEnd hK hF (kInLoop hK hF ?_)
      have h9 := ih (p + 1) (by rw [← List.drop_drop, hd]; rfl) (by simp only [List.length_cons] at hp; omega) _ _ _ _ _ _ _ (hR.re_ hrv) (by omega) (by simp only [List.length_cons] at ho; omega) (fun γ' u' stv' mv' h' => h γ' u' stv' mv' (by simpa [runR, runStill, runOut, hRi] using h'))
      exact h9 _ _ _ _ _ _ _ _ _ _ _ _ _ _ _ _ _ _ _ _ _ _ _ _ _ _ _ _ _ _ _ _ _ _ _ _ _ _ _ _ _ _ _ _ _ _ _ _ _ _ _ _ _ _ _ _ _ _ _ _ _ _ _ _ _ _ _ _ _ _ _ _ _ _ _ _ _ _ _ _ _ _ _ _ _ _ _ _ _ _ _ _ _ _ _ _ _
end
end Go.Proofs.Ytoimhdhplebhgaa
/-
  MergeSorted's merging loop.
-/
namespace Go.Proofs.Ytoimhdhplebhgaa
open Go.Conc Go.RowKit Go.Conc.Lib Go.ConcR.Gen
open Go.ConcN (upd upd_same upd_ne)
open Go.ConcR (KK WgAt stA smA rd wr mk DC0)
set_option linter.unusedSimpArgs false
set_option linter.unusedVariables false

noncomputable def L19m : Code := match E19 with | .seq _ (.seq (.block _ (.loop c)) _) => c | _ => .skip
noncomputable def E19m : Code := match E19 with | .seq _ (.seq _ c) => c | _ => .skip
def T19m (wgp opv hdv mv : Value) (x0 x1 x4 x5 x9 x10 x11 x12 x14 x15 x16 x17 x18 x19 x20 x21 x22 x23 x24 x25 x26 x27 x28 x29 x30 x31 x32 x33 x34 x35 x36 x37 x38 x39 x40 x41 x42 x43 x44 x45 x46 x47 x48 x49 x50 x51 x52 x53 x54 x55 x56 x57 x58 x59 x60 x61 x62 x63 x64 x65 x66 x67 x68 x69 x70 x71 x72 x73 x74 x75 x76 x77 x78 x79 x80 x81 x82 x83 x84 x85 x86 x87 x88 x89 x90 x91 x92 x93 x94 x95 x96 x97 x98 x99 x100 x101 x102 x103 x104 : Value) : Array Value :=
  #[x0, x1, .slice none 0 0, .bool false, x4, x5, wgp, opv, hdv, x9, x10, x11, x12, mv, x14, x15, x16, x17, x18, x19, x20, x21, x22, x23, x24, x25, x26, x27, x28, x29, x30, x31, x32, x33, x34, x35, x36, x37, x38, x39, x40, x41, x42, x43, x44, x45, x46, x47, x48, x49, x50, x51, x52, x53, x54, x55, x56, x57, x58, x59, x60, x61, x62, x63, x64, x65, x66, x67, x68, x69, x70, x71, x72, x73, x74, x75, x76, x77, x78, x79, x80, x81, x82, x83, x84, x85, x86, x87, x88, x89, x90, x91, x92, x93, x94, x95, x96, x97, x98, x99, x100, x101, x102, x103, x104]
theorem map_erase {α β : Type} (f : α → β) : ∀ (l : List α) (k : Nat), (l.eraseIdx k).map f = (l.map f).eraseIdx k
  | [], _ => rfl
  | _ :: _, 0 => rfl
  | x :: l, k + 1 => by
    show f x :: (l.eraseIdx k).map f = f x :: (l.map f).eraseIdx k
    rw [map_erase f l k]
/-- The merging stands so: S are still open, H their heads, R what is yet to be received. -/
structure Rs (v : World) (V : List Value) (M : List (List Int)) (C : Nat → Nat) (γ : View) (R Rem : Nat → List Int) (S : List Nat) (H : List Int) (opv hdv mv : Value) (out : List Int) (u : World) : Prop where
  rv : Rv v V M C R γ u
  hop : u.ownsRow v.heap.size 51 1 opv S.length (chs C S)
  hhd : u.ownsRow v.heap.size 3 1 hdv H.length (ints H)
  hmv : u.ownsRow v.heap.size 3 1 mv out.length (ints out)
  apart : ∀ b, hdv.ownBlock = some b → mv.ownBlock ≠ some b
  len : H.length = S.length
  six : S.length ≤ 6
  nd : S.Nodup
  low : ∀ i ∈ S, i < M.length
  mrg : Mrg M Rem out
  isin : ∀ (j i : Nat) (x : Int), S[j]? = some i → H[j]? = some x → Rem i = x :: R i
  none : ∀ i : Nat, i < M.length → i ∉ S → Rem i = [] ∧ R i = []
section
variable {Base : Bs} {Post : Value → World → Prop} {v : World} {Wg : Nat} {V : List Value} {M : List (List Int)} {C : Nat → Nat} {wgp : Value}
set_option maxRecDepth 100000 in
set_option maxHeartbeats 16000000 in
theorem sorted_main {N : Nat} {cs : List Frame} (hM : M.length ≤ 6) (h240 : M.flatten.length ≤ 240)
    (h : ∀ γ u R opv hdv mv, Rv v V M C R γ u → (∀ i, i < M.length → R i = []) → u.ownsRow v.heap.size 3 1 mv (sortedL M).length (ints (sortedL M)) → ∀ x0 x1 x4 x5 x9 x10 x11 x12 x14 x15 x16 x17 x18 x19 x20 x21 x22 x23 x24 x25 x26 x27 x28 x29 x30 x31 x32 x33 x34 x35 x36 x37 x38 x39 x40 x41 x42 x43 x44 x45 x46 x47 x48 x49 x50 x51 x52 x53 x54 x55 x56 x57 x58 x59 x60 x61 x62 x63 x64 x65 x66 x67 x68 x69 x70 x71 x72 x73 x74 x75 x76 x77 x78 x79 x80 x81 x82 x83 x84 x85 x86 x87 x88 x89 x90 x91 x92 x93 x94 x95 x96 x97 x98 x99 x100 x101 x102 x103 x104, KA (MNext Try.prog 47 Wg true Base Post (N + 1) γ) (G ((Conc.base 19).at ⟨T19m wgp opv hdv mv x0 x1 x4 x5 x9 x10 x11 x12 x14 x15 x16 x17 x18 x19 x20 x21 x22 x23 x24 x25 x26 x27 x28 x29 x30 x31 x32 x33 x34 x35 x36 x37 x38 x39 x40 x41 x42 x43 x44 x45 x46 x47 x48 x49 x50 x51 x52 x53 x54 x55 x56 x57 x58 x59 x60 x61 x62 x63 x64 x65 x66 x67 x68 x69 x70 x71 x72 x73 x74 x75 x76 x77 x78 x79 x80 x81 x82 x83 x84 x85 x86 x87 x88 x89 x90 x91 x92 x93 x94 x95 x96 x97 x98 x99 x100 x101 x102 x103 x104, []⟩ [.code E19m]) cs) u) :
    ∀ (k : Nat) γ u R Rem S H opv hdv mv out, Rs v V M C γ R Rem S H opv hdv mv out u → (rest Rem M.length).length = k → ∀ x0 x1 x4 x5 x9 x10 x11 x12 x14 x15 x16 x17 x18 x19 x20 x21 x22 x23 x24 x25 x26 x27 x28 x29 x30 x31 x32 x33 x34 x35 x36 x37 x38 x39 x40 x41 x42 x43 x44 x45 x46 x47 x48 x49 x50 x51 x52 x53 x54 x55 x56 x57 x58 x59 x60 x61 x62 x63 x64 x65 x66 x67 x68 x69 x70 x71 x72 x73 x74 x75 x76 x77 x78 x79 x80 x81 x82 x83 x84 x85 x86 x87 x88 x89 x90 x91 x92 x93 x94 x95 x96 x97 x98 x99 x100 x101 x102 x103 x104,
      KA (MNext Try.prog 47 Wg true Base Post (k + N + 1) γ) (G ((Conc.base 19).at ⟨T19m wgp opv hdv mv x0 x1 x4 x5 x9 x10 x11 x12 x14 x15 x16 x17 x18 x19 x20 x21 x22 x23 x24 x25 x26 x27 x28 x29 x30 x31 x32 x33 x34 x35 x36 x37 x38 x39 x40 x41 x42 x43 x44 x45 x46 x47 x48 x49 x50 x51 x52 x53 x54 x55 x56 x57 x58 x59 x60 x61 x62 x63 x64 x65 x66 x67 x68 x69 x70 x71 x72 x73 x74 x75 x76 x77 x78 x79 x80 x81 x82 x83 x84 x85 x86 x87 x88 x89 x90 x91 x92 x93 x94 x95 x96 x97 x98 x99 x100 x101 x102 x103 x104, []⟩ [.code L19m, .inLoop L19m, .inBlock 4, .code E19m]) cs) u := by
  intro k
  induction k with
  | zero =>
    intro γ u R Rem S H opv hdv mv out hR hk x0 x1 x4 x5 x9 x10 x11 x12 x14 x15 x16 x17 x18 x19 x20 x21 x22 x23 x24 x25 x26 x27 x28 x29 x30 x31 x32 x33 x34 x35 x36 x37 x38 x39 x40 x41 x42 x43 x44 x45 x46 x47 x48 x49 x50 x51 x52 x53 x54 x55 x56 x57 x58 x59 x60 x61 x62 x63 x64 x65 x66 x67 x68 x69 x70 x71 x72 x73 x74 x75 x76 x77 x78 x79 x80 x81 x82 x83 x84 x85 x86 x87 x88 x89 x90 x91 x92 x93 x94 x95 x96 x97 x98 x99 x100 x101 x102 x103 x104
    have hS : S = [] := by
      cases hS : S with
      | nil => rfl
      | cons i S' =>
        have hl := hR.len
        rw [hS] at hl
        obtain ⟨x, hx⟩ : ∃ x, H[0]? = some x := ⟨H[0]'(by rw [hl]; simp), List.getElem?_eq_getElem _⟩
        have h1 := hR.isin 0 i x (by rw [hS]; rfl) hx
        have h2 : x ∈ rest Rem M.length := mem_rest.2 ⟨i, hR.low i (by rw [hS]; simp), by rw [h1]; simp⟩
        rw [List.eq_nil_of_length_eq_zero hk] at h2
        cases h2
    subst hS
    have hF := hR.rv.flat
    have hK := kn_ok (P := Try.prog) (ty := 47) (Wg := Wg) (Base := Base) (Post := Post) N γ
    have hout := hR.mrg.done (fun i hi => (hR.none i hi (by simp)).1)
    have hmv := hR.hmv
    rw [hout] at hmv
    have h' := h γ u R opv hdv mv hR.rv (fun i hi => (hR.none i hi (by simp)).2) hmv
    obtain ⟨Ao, oc, e1⟩ := own_form hR.hop
    subst e1
    rw [show 0 + N + 1 = N + 1 by omega]
    simp only [L19m, E19m, E19, body19, Try.f19, Option.getD_some, T19m] at h' ⊢
    refine kSeq hK hF (kSeq hK hF (kRegion hK hF ?_))
    refine kOp closedS.bodies hK hF (val := .slice Ao 0 oc) (by k_ne) rfl rfl (by kernel_rfl) (fun v₁ hv => by go_simp) ?_
    walk_nrm
    refine kOp closedS.bodies hK hF (val := .int .i64 0) (by k_ne) rfl rfl (by kernel_rfl) (fun v₁ hv => by go_simp) ?_
    walk_nrm
    refine kOp closedS.bodies hK hF (val := .bool false) (by k_ne) rfl rfl (by kernel_rfl) (fun v₁ hv => by go_simp) ?_
    walk_nrm
    refine kRegEnd hK hF (kCond hK hF (t := false) (by rfl) ?_)
    simp only [Bool.false_eq_true, if_false]
    refine kExit hK hF (k' := _) (by rfl) ?_
    exact h' _ _ _ _ _ _ _ _ _ _ _ _ _ _ _ _ _ _ _ _ _ _ _ _ _ _ _ _ _ _ _ _ _ _ _ _ _ _ _ _ _ _ _ _ _ _ _ _ _ _ _ _ _ _ _ _ _ _ _ _ _ _ _ _ _ _ _ _ _ _ _ _ _ _ _ _ _ _ _ _ _ _ _ _ _ _ _ _ _ _ _ _ _ _ _ _ _ _ _
  | succ k ih =>
    intro γ u R Rem S H opv hdv mv out hR hk x0 x1 x4 x5 x9 x10 x11 x12 x14 x15 x16 x17 x18 x19 x20 x21 x22 x23 x24 x25 x26 x27 x28 x29 x30 x31 x32 x33 x34 x35 x36 x37 x38 x39 x40 x41 x42 x43 x44 x45 x46 x47 x48 x49 x50 x51 x52 x53 x54 x55 x56 x57 x58 x59 x60 x61 x62 x63 x64 x65 x66 x67 x68 x69 x70 x71 x72 x73 x74 x75 x76 x77 x78 x79 x80 x81 x82 x83 x84 x85 x86 x87 x88 x89 x90 x91 x92 x93 x94 x95 x96 x97 x98 x99 x100 x101 x102 x103 x104
    have hF := hR.rv.flat
    have hpos : 0 < S.length := by
      rcases Nat.eq_zero_or_pos S.length with e | e
      · have hS := List.eq_nil_of_length_eq_zero e
        have h1 : rest Rem M.length = [] := rest_nil fun i hi => (hR.none i hi (by simp [hS])).1
        rw [h1] at hk
        cases hk
      · exact e
    have hlt : (0 : Int) < (S.length : Int) := by omega
    have hS0 : ¬ S = [] := by intro e; rw [e] at hpos; cases hpos
    have hK := kn_ok (P := Try.prog) (ty := 47) (Wg := Wg) (Base := Base) (Post := Post) (k + N + 1) γ
    rw [show k + 1 + N + 1 = k + N + 1 + 1 by omega]
    obtain ⟨Ao, oc, e1⟩ := own_form hR.hop
    subst e1
    obtain ⟨Ah, hc, e1⟩ := own_form hR.hhd
    subst e1
    simp only [L19m, E19m, E19, body19, Try.f19, Option.getD_some, T19m] at ih h ⊢
    refine kSeq hK hF (kSeq hK hF (kRegion hK hF ?_))
    refine kOp closedS.bodies hK hF (val := .slice Ao S.length oc) (by k_ne) rfl rfl (by kernel_rfl) (fun v₁ hv => by go_simp) ?_
    walk_nrm
    refine kOp closedS.bodies hK hF (val := .int .i64 S.length) (by k_ne) rfl rfl (by kernel_rfl) (fun v₁ hv => by go_simp) ?_
    walk_nrm
    refine kOp closedS.bodies hK hF (val := .bool true) (by k_ne) rfl rfl (by kernel_rfl) (fun v₁ hv => by go_simp; try simp [hlt, hS0]) ?_
    walk_nrm
    refine kRegEnd hK hF (kCond hK hF (t := true) (by rfl) ?_)
    simp only [if_true]
    refine kSkip hK hF (kBlock hK hF (kSeq hK hF (kRegion hK hF ?_)))
    refine kOp closedS.bodies hK hF (val := .int .i64 0) (by k_ne) rfl rfl (by kernel_rfl) (fun v₁ hv => by go_simp) ?_
    walk_nrm
    refine kRegEnd hK hF (kSeq hK hF (kLift closedS hK hF (by kernel_rfl) (by k_ne) fun t1 => ?_))
    generalize hQ : Behind _ _ _ _ _ = Q
    have hHl : 0 < H.length := by rw [hR.len]; exact hpos
    have hH6 : H.length ≤ 6 := by rw [hR.len]; exact hR.six
    have hRh : RI (u.re t1 0) (u.re t1 0).heap.size Ah H := RI.of_own (show (u.re t1 0).ownsRow v.heap.size 3 1 (.slice Ah H.length hc) H.length (ints H) from hR.hhd)
    have Hs := Lib.hid (And.intro hR (And.intro hk (And.intro hS0 hlt)))
    have IH := Lib.hid ih
    have HH := Lib.hid h
    clear hk hS0 hlt ih h
    go_wp2
    go_loopw [14, 60] (fun bv iv wr => ∃ (j b : Nat), j ≤ H.length ∧ b < H.length ∧ iv = .int .i64 j ∧ bv = .int .i64 b ∧ (∀ i (hi : i < H.length), i < j → H.getD b 0 ≤ H[i]) ∧ wr = u.re t1 0) (fun _ iv _ => H.length - (intOf iv).toNat)
    case atStart => exact ⟨0, 0, Nat.zero_le _, hHl, rfl, rfl, fun i hi h => by omega, rfl⟩
    case round =>
      obtain ⟨j, b, hj, hb, rfl, rfl, hmin, rfl⟩ := hrel
      by_cases hjl : j < H.length
      · obtain ⟨ad, rfl, _, hc1⟩ := hRh.at_ hjl
        obtain ⟨_, e, _, hc2⟩ := hRh.at_ hb
        injection e with e
        subst e
        have HM := Lib.hid hmin
        have hbD : H.getD b 0 = H[b] := by simp [List.getD_eq_getElem?_getD, hb]
        have hjD : H.getD j 0 = H[j] := by simp [List.getD_eq_getElem?_getD, hjl]
        obtain ⟨x, hx⟩ : ∃ x, H[j] = x := ⟨_, rfl⟩
        obtain ⟨y, hy⟩ : ∃ y, H[b] = y := ⟨_, rfl⟩
        rw [hx] at hc1
        rw [hy] at hc2
        have HD := Lib.hid (And.intro (hbD.trans hy) (And.intro (hjD.trans hx) (And.intro hx hy)))
        clear hmin hbD hjD hx hy
        by_cases hxy : x < y
        · go_wp2
          go_roundw
          case rel =>
            obtain ⟨d1, d2, d3, d4⟩ := HD.out
            refine ⟨j + 1, j, by omega, hjl, by go_num, rfl, fun i hi hij => ?_, trivial⟩
            by_cases e : i = j
            · subst e; rw [d2, d3]; exact Int.le_refl _
            · have := HM.out i hi (by omega); rw [d1] at this; rw [d2]; omega
          case measure => simp [intOf]; omega
        · go_wp2
          go_roundw
          case rel =>
            obtain ⟨d1, d2, d3, d4⟩ := HD.out
            refine ⟨j + 1, b, by omega, hb, by go_num, rfl, fun i hi hij => ?_, trivial⟩
            by_cases e : i = j
            · subst e; rw [d1, d3]; omega
            · exact HM.out i hi (by omega)
          case measure => simp [intOf]; omega
      · obtain rfl : j = H.length := by omega
        go_wp2
        subst hQ
        refine fun _ _ => KA.re ?_
        obtain ⟨_, hk, hS0, hlt⟩ := Hs.out
        clear hRh
        have hbS : b < S.length := by rw [← hR.len]; exact hb
        have hxb : ∃ x, H[b]? = some x := ⟨H[b], List.getElem?_eq_getElem hb⟩
        obtain ⟨x, hxb⟩ := hxb
        obtain ⟨i, hSb⟩ : ∃ i, S[b]? = some i := ⟨S[b], List.getElem?_eq_getElem hbS⟩
        have hin : i < M.length := hR.low i (List.mem_of_getElem? hSb)
        have hRem := hR.isin b i x hSb hxb
        have hle : ∀ j y r, j < M.length → Rem j = y :: r → x ≤ y := fun j y r hj hy => by
          by_cases hjS : j ∈ S
          · obtain ⟨q, hq⟩ := List.getElem?_of_mem hjS
            have hql : q < H.length := by rw [hR.len]; exact (List.getElem?_eq_some_iff.1 hq).1
            have h1 := hR.isin q j H[q] hq (List.getElem?_eq_getElem hql)
            rw [hy] at h1
            injection h1 with h1 _
            have h2 := hmin q hql hql
            rw [List.getD_eq_getElem?_getD, hxb] at h2
            rw [h1]
            exact h2
          · rw [(hR.none j hj hjS).1] at hy
            cases hy
        have hm' := hR.mrg.step hin hRem hle
        have hrs := (rest_step hRem hin).length_eq
        have hol := hR.mrg.len
        clear hmin
        refine kSeq hK hF (kLift closedS hK hF (by kernel_rfl) (by k_ne) fun t2 => ?_)
        obtain ⟨i0, hi, hz0, hz1, hz2⟩ := info_parts int_info
        have hmv2 : (u.re t2 0).ownsRow v.heap.size 3 1 mv out.length (ints out) := hR.hmv
        have hvu := hR.rv.size
        have hhd2 : (u.re t2 0).ownsRow v.heap.size 3 1 (.slice Ah H.length hc) H.length (ints H) := hR.hhd
        obtain ⟨adh, e3, _, hcb⟩ := (RI.of_own hhd2).at_ hb
        have hxe : H[b] = x := by rw [List.getElem?_eq_getElem hb] at hxb; exact Option.some.inj hxb
        rw [hxe] at hcb
        subst e3
        have Hk := Lib.hid (And.intro hk (And.intro hxe (And.intro hxb (And.intro hSb (And.intro hRem (And.intro hrs hol))))))
        have hol2 : out.length ≤ 240 := by omega
        clear hk hxe hxb hSb hRem hrs hol hS0 hlt
        generalize hQ : Behind _ _ _ _ _ = Q
        go_wp2_with (at_builtin; refine wpList_append_own_at _ rfl _ _ 25 rfl v.heap.size 3 i0 (.int .i64 0) 1 8 Try.underlying25 hi hz0 hz1 hz2 rfl (by decide) mv _ _ rfl (hmv2.alloc _) ⟨(u.re t2 0).heap.size, 0, none⟩ 1 1 [.int .i64 x] rfl rfl (cell_one_new _ _ _) (by intro u hu; obtain rfl := List.mem_singleton.1 hu; rfl) ?_ ?_ ?_ ?_; (unfold maxLen; omega); omega; (simp [re_heap]; omega); intro mv' w3 hown' hgrow hnil hloc)
        subst hQ
        refine fun hF3 _ => ?_
        have hrv3 := hR.rv.grown hF3 hgrow (fun b hb => (hR.hmv.lt b hb).1)
        have hop3 := row_grown hR.hop hgrow (fun b hb hb' => own_types hR.hop hR.hmv (by decide) b hb hb')
        have hhd3 := row_grown hR.hhd hgrow (fun b hb hb' => hR.apart b hb hb')
        have hmv3 : w3.ownsRow v.heap.size 3 1 mv' (out ++ [x]).length (ints (out ++ [x])) := by simpa [ints] using hown'
        have hap3 : ∀ b, (Value.slice (some adh) H.length hc).ownBlock = some b → mv'.ownBlock ≠ some b := fun b hb hb' => by
          rcases hloc with e | e
          · exact hR.apart b hb (e ▸ hb')
          · have h1 := (hR.hhd.lt b hb).2
            rw [hb', alloc_size, re_heap] at e
            have := Option.some.inj e
            omega
        clear hmv2 hgrow hown' hloc hnil hi hz0 hz1 hz2 hhd2 hcb
        obtain ⟨hk, hxe, hxb, hSb, hRem, hrs, hol⟩ := Hk.out
        obtain ⟨ad, y, e2, _, hy, hcell⟩ := (Reads.of_own hop3).at_ hbS
        subst e2
        have hy' : y = .chan (some (C i)) := by
          rw [chs, List.getElem?_map, hSb] at hy
          exact (Option.some.inj hy).symm
        subst hy'
        have hbi : (b : Int) < (S.length : Int) := by omega
        have hb0 : ¬ ((b : Int) < 0) := by omega
        refine kSeq hK hF3 (kRegion hK hF3 ?_)
        refine kOp closedS.bodies hK hF3 (val := .slice (some ad) S.length oc) (by k_ne) rfl rfl (by kernel_rfl) (fun v₁ hv => by go_simp) ?_
        walk_nrm
        refine kOp closedS.bodies hK hF3 (val := .int .i64 b) (by k_ne) rfl rfl (by kernel_rfl) (fun v₁ hv => by go_simp) ?_
        walk_nrm
        refine kOp closedS.bodies hK hF3 (val := .pointer (some (ad.add b))) (by k_ne) rfl rfl (by kernel_rfl) (fun v₁ hv => by go_simp; try simp [hbi, hb0, hbS]) ?_
        walk_nrm
        refine kOp closedS.bodies hK hF3 (val := .chan (some (C i))) (by k_ne) rfl rfl (by kernel_rfl) (fun v₁ hv => by have := cell_up hv hcell; go_simp) ?_
        walk_nrm
        refine kn_recv (n := k + N + 1) rfl rfl (by k_ne) rfl (w := i) (R := R i) (by rw [hrv3.c i hin]; rfl) (by rw [hrv3.j]; exact hin) (hrv3.say i hin) (fun y l' hRi => ?_) (fun hRi => ?_)
        · have hK := kn_ok (P := Try.prog) (ty := 47) (Wg := Wg) (Base := Base) (Post := Post) (k + N) { γ with σ := upd γ.σ i (says l') }
          have hrv := hrv3.heard i l'
          walk_nrm
          refine kOp closedS.bodies hK hF3 (val := .tuple #[.int .i64 y, .bool true]) (by k_ne) rfl rfl (by kernel_rfl) (fun v₁ hv => by go_simp) ?_
          walk_nrm
          refine kOp closedS.bodies hK hF3 (val := .int .i64 y) (by k_ne) rfl rfl (by kernel_rfl) (fun v₁ hv => by go_simp) ?_
          walk_nrm
          refine kOp closedS.bodies hK hF3 (val := .bool true) (by k_ne) rfl rfl (by kernel_rfl) (fun v₁ hv => by go_simp) ?_
          walk_nrm
          refine kOp closedS.bodies hK hF3 (val := .int .i64 y) (by k_ne) rfl rfl (by kernel_rfl) (fun v₁ hv => by go_simp) ?_
          walk_nrm
          refine kOp closedS.bodies hK hF3 (val := .bool true) (by k_ne) rfl rfl (by kernel_rfl) (fun v₁ hv => by go_simp) ?_
          walk_nrm
          refine kRegEnd hK hF3 (kSeq hK hF3 (kSeq hK hF3 (kRegion hK hF3 ?_)))
          refine kOp closedS.bodies hK hF3 (val := .bool true) (by k_ne) rfl rfl (by kernel_rfl) (fun v₁ hv => by go_simp) ?_
          walk_nrm
          refine kRegEnd hK hF3 (kCond hK hF3 (t := true) (by rfl) ?_)
          simp only [if_true]
          obtain ⟨g, c', hvv, hbg, _⟩ := own_some hhd3 (by omega)
          injection hvv with e1 _ e3
          subst e3
          injection e1 with e1
          subst e1
          refine kSeq hK hF3 (kLift closedS hK hF3 (by kernel_rfl) (by k_ne) fun t3 => ?_)
          have hhd4 : (w3.re t3 0).ownsRow v.heap.size 3 1 (.slice (some ⟨g, 0, none⟩) H.length hc) H.length (ints H) := hhd3
          have hc4 := (hhd4.cellAt b (by omega)).trans (List.getElem?_eq_getElem (by simp; exact hb))
          have hf4 := hhd4.frozenAt b
          have hst := (hhd4.stored b (.int .i64 y)).1
          rw [ints_set] at hst
          generalize (ints H)[b]'(by simp; exact hb) = old at hc4
          have Hst := Lib.hid hst
          have Hk2 := Lib.hid (And.intro hxb (And.intro hSb (And.intro hRem (And.intro hrs (And.intro hRi hk)))))
          have hbh : (b : Int) < (H.length : Int) := by omega
          clear hst hxe hxb hSb hRem hrs hRi hk hhd4
          generalize hQ : Behind _ _ _ _ _ = Q
          go_wp2
          subst hQ
          refine fun hF4 _ => ?_
          obtain ⟨hxb, hSb, hRem, hrs, hRi, hk⟩ := Hk2.out
          have hbk : ∀ k, k ≠ g → ((w3.re t3 0).setCell ⟨g, b, none⟩ (.int .i64 y)).heap[k]? = w3.heap[k]? := fun k hk => Below.heap_setCell (w3.re t3 0) ⟨g, b, none⟩ _ k (by rintro rfl; exact hk rfl)
          refine kExit hK hF4 (k' := _) (by rfl) ?_
          refine kInLoop hK hF4 ?_
          have hR5 : Rs v V M C { γ with σ := upd γ.σ i (says l') } (upd R i l') (upd Rem i (R i)) S (H.set b y) (.slice (some ad) S.length oc) (.slice (some ⟨g, 0, none⟩) (H.set b y).length hc) mv' (out ++ [x]) ((w3.re t3 0).setCell ⟨g, b, none⟩ (.int .i64 y)) := by
            refine ⟨hrv.world hF4 (by simp [World.setCell, re_heap]) (fun k hk => hbk k (by omega)), own_blocks hop3 (fun k hk => hbk k (fun e => own_types hop3 hhd3 (by decide) k hk (by rw [e]; rfl))), by rw [List.length_set]; exact Hst.out, own_blocks hmv3 (fun k hk => hbk k (fun e => hap3 k (by rw [e]; rfl) hk)), fun k hk => hap3 k hk, by simp [hR.len], hR.six, hR.nd, hR.low, hm', fun j q z hj hz => ?_, fun q hq hqS => ?_⟩
            · by_cases e : j = b
              · subst e
                obtain rfl := Option.some.inj (hSb.symm.trans hj)
                rw [List.getElem?_set_self hb] at hz
                obtain rfl := Option.some.inj hz
                rw [upd_same, upd_same, hRi]
              · have hqi : q ≠ i := fun e2 => by
                  subst e2
                  exact e ((List.getElem?_inj (List.getElem?_eq_some_iff.1 hj).1 hR.nd).1 (hj.trans hSb.symm))
                rw [List.getElem?_set_ne (fun h => e h.symm)] at hz
                rw [upd_ne _ _ hqi, upd_ne _ _ hqi]
                exact hR.isin j q z hj hz
            · have hqi : q ≠ i := fun e => hqS (e ▸ List.mem_of_getElem? hSb)
              rw [upd_ne _ _ hqi, upd_ne _ _ hqi]
              exact hR.none q hq hqS
          rw [List.length_set] at hR5
          exact IH.out _ _ _ _ _ _ _ _ _ _ hR5 (by simp at hrs; omega) _ _ _ _ _ _ _ _ _ _ _ _ _ _ _ _ _ _ _ _ _ _ _ _ _ _ _ _ _ _ _ _ _ _ _ _ _ _ _ _ _ _ _ _ _ _ _ _ _ _ _ _ _ _ _ _ _ _ _ _ _ _ _ _ _ _ _ _ _ _ _ _ _ _ _ _ _ _ _ _ _ _ _ _ _ _ _ _ _ _ _ _ _ _ _ _ _ _ _
        · have hK := kn_ok (P := Try.prog) (ty := 47) (Wg := Wg) (Base := Base) (Post := Post) (k + N) γ
          have hrv := hrv3.same i [] hRi
          walk_nrm
          refine kOp closedS.bodies hK hF3 (val := .tuple #[.int .i64 0, .bool false]) (by k_ne) rfl rfl (by kernel_rfl) (fun v₁ hv => by go_simp) ?_
          walk_nrm
          refine kOp closedS.bodies hK hF3 (val := .int .i64 0) (by k_ne) rfl rfl (by kernel_rfl) (fun v₁ hv => by go_simp) ?_
          walk_nrm
          refine kOp closedS.bodies hK hF3 (val := .bool false) (by k_ne) rfl rfl (by kernel_rfl) (fun v₁ hv => by go_simp) ?_
          walk_nrm
          refine kOp closedS.bodies hK hF3 (val := .int .i64 0) (by k_ne) rfl rfl (by kernel_rfl) (fun v₁ hv => by go_simp) ?_
          walk_nrm
          refine kOp closedS.bodies hK hF3 (val := .bool false) (by k_ne) rfl rfl (by kernel_rfl) (fun v₁ hv => by go_simp) ?_
          walk_nrm
          refine kRegEnd hK hF3 (kSeq hK hF3 (kSeq hK hF3 (kRegion hK hF3 ?_)))
          refine kOp closedS.bodies hK hF3 (val := .bool false) (by k_ne) rfl rfl (by kernel_rfl) (fun v₁ hv => by go_simp) ?_
          walk_nrm
          refine kRegEnd hK hF3 (kCond hK hF3 (t := false) (by rfl) ?_)
          simp only [Bool.false_eq_true, if_false]
          refine kSkip hK hF3 (kSeq hK hF3 (kLift closedS hK hF3 (by kernel_rfl) (by k_ne) fun t3 => ?_))
          have hlS : (S.map fun i => some (C i)).length = S.length := by simp
          have hop4 : (w3.re t3 0).ownsRow v.heap.size 51 1 (.slice (some ad) (S.map fun i => some (C i)).length oc) (S.map fun i => some (C i)).length ((S.map fun i => some (C i)).map Value.chan) := by
            rw [hlS]
            have e : (S.map fun i => some (C i)).map Value.chan = chs C S := by simp [chs]
            rw [e]
            exact hop3
          have hdel := del_chans (some ad) oc (S.map fun i => some (C i)) b (w3.re t3 0) v.heap.size hop4 (by rw [hlS]; exact hbS)
          rw [hlS, show ((b + 1 : Nat) : Int) = (b : Int) + 1 by omega] at hdel
          have Hk2 := Lib.hid (And.intro hxb (And.intro hSb (And.intro hRem (And.intro hrs (And.intro hRi (And.intro hxe (And.intro hlS hk)))))))
          clear hxe hxb hSb hRem hrs hRi hk hop4 hlS
          generalize hQ : Behind _ _ _ _ _ = Q
          go_wp2_with (go_at_call 30; refine hdel.mono ?_; rintro e w4 ⟨rfl, hop5, hg5⟩)
          subst hQ
          refine fun hF4 _ => ?_
          refine kLift closedS hK hF4 (by kernel_rfl) (by k_ne) fun t4 => ?_
          have hhd4 : w4.ownsRow v.heap.size 3 1 (.slice (some adh) H.length hc) H.length (ints H) := own_mark (show (w3.re t3 0).ownsRow v.heap.size 3 1 (.slice (some adh) H.length hc) H.length (ints H) from hhd3) hg5 (fun k hk e => own_types hop3 hhd3 (by decide) k e hk)
          have hdel2 := del_ints (some adh) hc H b (w4.re t4 0) v.heap.size hhd4 hb
          rw [show ((b + 1 : Nat) : Int) = (b : Int) + 1 by omega] at hdel2
          generalize hQ : Behind _ _ _ _ _ = Q
          go_wp2_with (go_at_call 31; refine hdel2.mono ?_; rintro e w5 ⟨rfl, hhd5, hg6⟩)
          subst hQ
          refine fun hF5 _ => ?_
          obtain ⟨hxb, hSb, hRem, hrs, hRi, hxe, hlS, hk⟩ := Hk2.out
          refine kInBlock hK hF5 (kInLoop hK hF5 ?_)
          have hle1 : ((S.map fun i => some (C i)).eraseIdx b).length = (S.eraseIdx b).length := by simp [List.length_eraseIdx]
          rw [hle1]
          have hR5 : Rs v V M C γ (upd R i []) (upd Rem i (R i)) (S.eraseIdx b) (H.eraseIdx b) (.slice (some ad) (S.eraseIdx b).length oc) (.slice (some adh) (H.eraseIdx b).length hc) mv' (out ++ [x]) w5 := by
            have hs4 : w3.heap.size ≤ w4.heap.size := hg5.size
            have hs5 : w4.heap.size ≤ w5.heap.size := hg6.size
            have hv3 := hrv3.size
            have hne : ∀ j q, j ≠ b → S[j]? = some q → q ≠ i := fun j q hjb hj e2 => by
              subst e2
              exact hjb ((List.getElem?_inj (List.getElem?_eq_some_iff.1 hj).1 hR.nd).1 (hj.trans hSb.symm))
            have hop6 := own_mark (show (w4.re t4 0).ownsRow _ _ _ _ _ _ from hop5) hg6 (fun k hk e => own_types hop3 hhd3 (by decide) k hk e)
            have hmv4 := own_mark (show (w3.re t3 0).ownsRow v.heap.size 3 1 mv' (out ++ [x]).length (ints (out ++ [x])) from hmv3) hg5 (fun k hk e => own_types hop3 hmv3 (by decide) k e hk)
            have hmv5 := own_mark (show (w4.re t4 0).ownsRow v.heap.size 3 1 mv' (out ++ [x]).length (ints (out ++ [x])) from hmv4) hg6 (fun k hk e => hap3 k e hk)
            have hch : ((S.map fun i => some (C i)).eraseIdx b).map Value.chan = chs C (S.eraseIdx b) := by rw [← map_erase, List.map_map]; rfl
            rw [hle1, hch] at hop6
            have hmem : ∀ j q (z : Int), (S.eraseIdx b)[j]? = some q → (H.eraseIdx b)[j]? = some z → ∃ j', j' ≠ b ∧ S[j']? = some q ∧ H[j']? = some z := fun j q z h1 h2 => by
              rw [List.getElem?_eraseIdx] at h1 h2
              by_cases hjb : j < b
              · rw [if_pos hjb] at h1 h2; exact ⟨j, by omega, h1, h2⟩
              · rw [if_neg hjb] at h1 h2; exact ⟨j + 1, by omega, h1, h2⟩
            refine ⟨hrv.world hF5 (by omega) (fun q hq => ?_), hop6, hhd5, hmv5, fun k hk => hap3 k hk, by simp [List.length_eraseIdx, hR.len], ?_, List.Pairwise.sublist (List.eraseIdx_sublist _ _) hR.nd, fun q hq => hR.low q (List.mem_of_mem_eraseIdx hq), hm', fun j q z hj hz => ?_, fun q hq hqS => ?_⟩
            · exact (hg6.block q (show q < w4.heap.size by omega) (fun e => by have := (hhd3.lt q e.symm).1; omega)).trans (hg5.block q (show q < w3.heap.size by omega) (fun e => by have := (hop3.lt q e.symm).1; omega))
            · have := hR.six
              rw [List.length_eraseIdx]; split <;> omega
            · obtain ⟨j', hjb, h1, h2⟩ := hmem j q z hj hz
              have hqi := hne j' q hjb h1
              rw [upd_ne _ _ hqi, upd_ne _ _ hqi]
              exact hR.isin j' q z h1 h2
            · by_cases hqi : q = i
              · subst hqi
                rw [upd_same, upd_same]
                exact ⟨hRi, rfl⟩
              · rw [upd_ne _ _ hqi, upd_ne _ _ hqi]
                refine hR.none q hq (fun hm => hqS ?_)
                obtain ⟨j, hj⟩ := List.getElem?_of_mem hm
                refine List.mem_eraseIdx_iff_getElem?.2 ⟨j, fun e => hqi ?_, hj⟩
                rw [e, hSb] at hj
                exact (Option.some.inj hj).symm
          exact IH.out _ _ _ _ _ _ _ _ _ _ hR5 (by simp at hrs; omega) _ _ _ _ _ _ _ _ _ _ _ _ _ _ _ _ _ _ _ _ _ _ _ _ _ _ _ _ _ _ _ _ _ _ _ _ _ _ _ _ _ _ _ _ _ _ _ _ _ _ _ _ _ _ _ _ _ _ _ _ _ _ _ _ _ _ _ _ _ _ _ _ _ _ _ _ _ _ _ _ _ _ _ _ _ _ _ _ _ _ _ _ _ _ _ _ _ _ _
end
end Go.Proofs.Ytoimhdhplebhgaa
