/-
  MergeSorted's first loop: the first number of each worker that has one.
-/
import Derived.Test.YtoimhdhplebhgaaG9
namespace Go.Proofs.Ytoimhdhplebhgaa
open Go.Conc Go.RowKit Go.Conc.Lib Go.ConcR.Gen
open Go.ConcN (upd upd_same upd_ne)
open Go.ConcR (KK WgAt stA smA rd wr mk DC0)
set_option linter.unusedSimpArgs false
set_option linter.unusedVariables false

noncomputable def body19 : Code := Try.f19.body.getD .skip
noncomputable def E19 : Code := match body19 with | .seq _ (.seq _ (.seq _ (.seq _ (.seq _ (.seq _ (.seq _ c)))))) => c | _ => .skip
noncomputable def L19 : Code := match body19 with | .seq _ (.seq _ (.seq _ (.seq _ (.seq _ (.seq _ (.seq (.seq _ (.block _ (.loop c))) _)))))) => c | _ => .skip
def T19 (wgp ov mv stv : Value) (n p : Nat) (x0 x1 x4 x5 x9 x10 x11 x12 x13 x14 x15 x16 x17 x18 x19 x20 x21 x22 x23 x24 x25 x26 x27 x28 x29 x30 x31 x32 x36 x37 x38 x39 x40 x41 x42 x43 x44 x45 x46 x47 x48 x49 x50 x51 x52 x53 x54 x55 x56 x57 x58 x59 x60 x61 x62 x63 x64 x65 x66 x67 x68 x69 x70 x71 x72 x73 x74 x75 x76 x77 x78 x79 x80 x81 x82 x83 x84 x85 x86 x87 x88 x89 x90 x91 x92 x93 x94 x95 x96 x97 x98 x99 x100 x101 x102 x103 x104 : Value) : Array Value :=
  #[x0, x1, .slice none 0 0, .bool false, x4, x5, wgp, stv, mv, x9, x10, x11, x12, x13, x14, x15, x16, x17, x18, x19, x20, x21, x22, x23, x24, x25, x26, x27, x28, x29, x30, x31, x32, ov, .int .i64 n, .int .i64 p, x36, x37, x38, x39, x40, x41, x42, x43, x44, x45, x46, x47, x48, x49, x50, x51, x52, x53, x54, x55, x56, x57, x58, x59, x60, x61, x62, x63, x64, x65, x66, x67, x68, x69, x70, x71, x72, x73, x74, x75, x76, x77, x78, x79, x80, x81, x82, x83, x84, x85, x86, x87, x88, x89, x90, x91, x92, x93, x94, x95, x96, x97, x98, x99, x100, x101, x102, x103, x104]
section
variable {Base : Bs} {Post : Value → World → Prop} {v : World} {Wg : Nat} {V : List Value} {M : List (List Int)} {C : Nat → Nat} {I : List Nat} {ov wgp : Value}
set_option maxRecDepth 100000 in
set_option maxHeartbeats 16000000 in
theorem sorted_first {N : Nat} {cs : List Frame} (hI : I.length ≤ 100) (hIn : ∀ i ∈ I, i < M.length) :
    ∀ (l : List Nat) (p : Nat), I.drop p = l → p + l.length = I.length → ∀ γ u R S stv mv out, Rin v V M C I ov γ R stv mv S out u → S.length ≤ p → out.length + l.length ≤ 100000 →
      (∀ γ' u' stv' mv', Rin v V M C I ov γ' (runR R l) stv' mv' (S ++ runStill R l) (out ++ runOut R l) u' → ∀ x0 x1 x4 x5 x9 x10 x11 x12 x13 x14 x15 x16 x17 x18 x19 x20 x21 x22 x23 x24 x25 x26 x27 x28 x29 x30 x31 x32 x36 x37 x38 x39 x40 x41 x42 x43 x44 x45 x46 x47 x48 x49 x50 x51 x52 x53 x54 x55 x56 x57 x58 x59 x60 x61 x62 x63 x64 x65 x66 x67 x68 x69 x70 x71 x72 x73 x74 x75 x76 x77 x78 x79 x80 x81 x82 x83 x84 x85 x86 x87 x88 x89 x90 x91 x92 x93 x94 x95 x96 x97 x98 x99 x100 x101 x102 x103 x104, KA (MNext Try.prog 47 Wg true Base Post (N + 1) γ') (G ((Conc.base 19).at ⟨T19 wgp ov mv' stv' I.length I.length x0 x1 x4 x5 x9 x10 x11 x12 x13 x14 x15 x16 x17 x18 x19 x20 x21 x22 x23 x24 x25 x26 x27 x28 x29 x30 x31 x32 x36 x37 x38 x39 x40 x41 x42 x43 x44 x45 x46 x47 x48 x49 x50 x51 x52 x53 x54 x55 x56 x57 x58 x59 x60 x61 x62 x63 x64 x65 x66 x67 x68 x69 x70 x71 x72 x73 x74 x75 x76 x77 x78 x79 x80 x81 x82 x83 x84 x85 x86 x87 x88 x89 x90 x91 x92 x93 x94 x95 x96 x97 x98 x99 x100 x101 x102 x103 x104, []⟩ [.code E19]) cs) u') → ∀ x0 x1 x4 x5 x9 x10 x11 x12 x13 x14 x15 x16 x17 x18 x19 x20 x21 x22 x23 x24 x25 x26 x27 x28 x29 x30 x31 x32 x36 x37 x38 x39 x40 x41 x42 x43 x44 x45 x46 x47 x48 x49 x50 x51 x52 x53 x54 x55 x56 x57 x58 x59 x60 x61 x62 x63 x64 x65 x66 x67 x68 x69 x70 x71 x72 x73 x74 x75 x76 x77 x78 x79 x80 x81 x82 x83 x84 x85 x86 x87 x88 x89 x90 x91 x92 x93 x94 x95 x96 x97 x98 x99 x100 x101 x102 x103 x104,
      KA (MNext Try.prog 47 Wg true Base Post (l.length + N + 1) γ) (G ((Conc.base 19).at ⟨T19 wgp ov mv stv I.length p x0 x1 x4 x5 x9 x10 x11 x12 x13 x14 x15 x16 x17 x18 x19 x20 x21 x22 x23 x24 x25 x26 x27 x28 x29 x30 x31 x32 x36 x37 x38 x39 x40 x41 x42 x43 x44 x45 x46 x47 x48 x49 x50 x51 x52 x53 x54 x55 x56 x57 x58 x59 x60 x61 x62 x63 x64 x65 x66 x67 x68 x69 x70 x71 x72 x73 x74 x75 x76 x77 x78 x79 x80 x81 x82 x83 x84 x85 x86 x87 x88 x89 x90 x91 x92 x93 x94 x95 x96 x97 x98 x99 x100 x101 x102 x103 x104, []⟩ [.code L19, .inLoop L19, .inBlock 2, .code E19]) cs) u := by
  intro l
  induction l with
  | nil =>
    intro p hd hp γ u R S stv mv out hR hS ho h x0 x1 x4 x5 x9 x10 x11 x12 x13 x14 x15 x16 x17 x18 x19 x20 x21 x22 x23 x24 x25 x26 x27 x28 x29 x30 x31 x32 x36 x37 x38 x39 x40 x41 x42 x43 x44 x45 x46 x47 x48 x49 x50 x51 x52 x53 x54 x55 x56 x57 x58 x59 x60 x61 x62 x63 x64 x65 x66 x67 x68 x69 x70 x71 x72 x73 x74 x75 x76 x77 x78 x79 x80 x81 x82 x83 x84 x85 x86 x87 x88 x89 x90 x91 x92 x93 x94 x95 x96 x97 x98 x99 x100 x101 x102 x103 x104
    obtain rfl : p = I.length := by simpa using hp
    have hnl : ¬ ((I.length : Int) < (I.length : Int)) := by omega
    have hF := hR.rv.flat
    have hK := kn_ok (P := Try.prog) (ty := 47) (Wg := Wg) (Base := Base) (Post := Post) N γ
    have h' := h γ u stv mv (by simpa [runR, runStill, runOut] using hR)
    rw [show ([] : List Nat).length + N + 1 = N + 1 by simp]
    simp only [L19, E19, body19, Try.f19, Option.getD_some, T19] at h' ⊢
    refine kSeq hK hF (kRegion hK hF ?_)
    refine kOp closedS.bodies hK hF (val := .bool false) (by k_ne) rfl rfl (by kernel_rfl) (fun v₁ hv => by go_simp; try simp [hnl]) ?_
    walk_nrm
    refine kRegEnd hK hF (kSeq hK hF (kCond hK hF (t := false) (by rfl) ?_))
    simp only [Bool.false_eq_true, if_false]
    refine kExit hK hF (k' := _) (by rfl) ?_
    exact h' _ _ _ _ _ _ _ _ _ _ _ _ _ _ _ _ _ _ _ _ _ _ _ _ _ _ _ _ _ _ _ _ _ _ _ _ _ _ _ _ _ _ _ _ _ _ _ _ _ _ _ _ _ _ _ _ _ _ _ _ _ _ _ _ _ _ _ _ _ _ _ _ _ _ _ _ _ _ _ _ _ _ _ _ _ _ _ _ _ _ _ _ _ _ _ _ _
  | cons i l ih =>
    intro p hd hp γ u R S stv mv out hR hS ho h x0 x1 x4 x5 x9 x10 x11 x12 x13 x14 x15 x16 x17 x18 x19 x20 x21 x22 x23 x24 x25 x26 x27 x28 x29 x30 x31 x32 x36 x37 x38 x39 x40 x41 x42 x43 x44 x45 x46 x47 x48 x49 x50 x51 x52 x53 x54 x55 x56 x57 x58 x59 x60 x61 x62 x63 x64 x65 x66 x67 x68 x69 x70 x71 x72 x73 x74 x75 x76 x77 x78 x79 x80 x81 x82 x83 x84 x85 x86 x87 x88 x89 x90 x91 x92 x93 x94 x95 x96 x97 x98 x99 x100 x101 x102 x103 x104
    have hK := kn_ok (P := Try.prog) (ty := 47) (Wg := Wg) (Base := Base) (Post := Post) (l.length + N + 1) γ
    rw [show (i :: l).length + N + 1 = l.length + N + 1 + 1 by simp only [List.length_cons]; omega]
    have hF := hR.rv.flat
    have hpI : p < I.length := by simp at hp; omega
    have hlt : (p : Int) < (I.length : Int) := by omega
    have hIp : I[p] = i := by
      have h1 := List.drop_eq_getElem_cons hpI
      rw [hd] at h1
      exact (List.cons.inj h1).1.symm
    have hin : i < M.length := hIn i (by rw [← hIp]; exact List.getElem_mem hpI)
    obtain ⟨Ao, oc, e1⟩ := own_form hR.hov
    subst e1
    obtain ⟨ad, y, e2, _, hy, hcell⟩ := (Reads.of_own hR.hov).at_ hpI
    subst e2
    have hy' : y = .chan (some (C i)) := by
      rw [chs, List.getElem?_map, List.getElem?_eq_getElem hpI, hIp] at hy
      exact (Option.some.inj hy).symm
    subst hy'
    simp only [L19, E19, body19, Try.f19, Option.getD_some, T19] at ih h ⊢
    refine kSeq hK hF (kRegion hK hF ?_)
    refine kOp closedS.bodies hK hF (val := .bool true) (by k_ne) rfl rfl (by kernel_rfl) (fun v₁ hv => by go_simp; try simp [hlt]) ?_
    walk_nrm
    refine kRegEnd hK hF (kSeq hK hF (kCond hK hF (t := true) (by rfl) ?_))
    simp only [if_true]
    refine kSkip hK hF (kSeq hK hF (kBlock hK hF (kSeq hK hF (kRegion hK hF ?_))))
    refine kOp closedS.bodies hK hF (val := .pointer (some (ad.add p))) (by k_ne) rfl rfl (by kernel_rfl) (fun v₁ hv => by go_simp) ?_
    walk_nrm
    refine kOp closedS.bodies hK hF (val := .chan (some (C i))) (by k_ne) rfl rfl (by kernel_rfl) (fun v₁ hv => by have := cell_up hv hcell; go_simp) ?_
    walk_nrm
    refine kOp closedS.bodies hK hF (val := .chan (some (C i))) (by k_ne) rfl rfl (by kernel_rfl) (fun v₁ hv => by go_simp) ?_
    walk_nrm
    refine kRegEnd hK hF (kSeq hK hF (kRegion hK hF ?_))
    refine kOp closedS.bodies hK hF (val := .chan (some (C i))) (by k_ne) rfl rfl (by kernel_rfl) (fun v₁ hv => by go_simp) ?_
    walk_nrm
    refine kn_recv (n := l.length + N + 1) rfl rfl (by k_ne) rfl (w := i) (R := R i) (by rw [hR.rv.c i hin]; rfl) (by rw [hR.rv.j]; exact hin) (hR.rv.say i hin) (fun y l' hRi => ?_) (fun hRi => ?_)
    · have hK := kn_ok (P := Try.prog) (ty := 47) (Wg := Wg) (Base := Base) (Post := Post) (l.length + N) { γ with σ := upd γ.σ i (says l') }
      have hrv := hR.rv.heard i l'
      walk_nrm
      refine kOp closedS.bodies hK hF (val := .tuple #[.int .i64 y, .bool true]) (by k_ne) rfl rfl (by kernel_rfl) (fun v₁ hv => by go_simp) ?_
      walk_nrm
      refine kOp closedS.bodies hK hF (val := .int .i64 y) (by k_ne) rfl rfl (by kernel_rfl) (fun v₁ hv => by go_simp) ?_
      walk_nrm
      refine kOp closedS.bodies hK hF (val := .bool true) (by k_ne) rfl rfl (by kernel_rfl) (fun v₁ hv => by go_simp) ?_
      walk_nrm
      refine kOp closedS.bodies hK hF (val := .int .i64 y) (by k_ne) rfl rfl (by kernel_rfl) (fun v₁ hv => by go_simp) ?_
      walk_nrm
      refine kOp closedS.bodies hK hF (val := .bool true) (by k_ne) rfl rfl (by kernel_rfl) (fun v₁ hv => by go_simp) ?_
      walk_nrm
      refine kRegEnd hK hF (kSeq hK hF (kRegion hK hF ?_))
      refine kOp closedS.bodies hK hF (val := .bool true) (by k_ne) rfl rfl (by kernel_rfl) (fun v₁ hv => by go_simp) ?_
      walk_nrm
      refine kRegEnd hK hF (kCond hK hF (t := true) (by rfl) ?_)
      simp only [if_true]
      refine kSeq hK hF ?_
      refine kLift closedS hK hF (by kernel_rfl) (by k_ne) fun t1 => ?_
      obtain ⟨ic, hi, hz0, hz1, hz2⟩ := info_parts chan_info
      have hst : (u.re t1 0).ownsRow v.heap.size 51 1 stv S.length (chs C S) := hR.hst
      have hvu := hR.rv.size
      go_wp2_with (at_builtin; refine wpList_append_own_at _ rfl _ _ 48 rfl v.heap.size 51 ic (.chan none) 1 8 Try.underlying48 hi hz0 hz1 hz2 rfl (by decide) stv _ _ rfl (hst.alloc _) ⟨(u.re t1 0).heap.size, 0, none⟩ 1 1 [.chan (some (C i))] rfl rfl (cell_one_new _ _ _) (by intro u hu; obtain rfl := List.mem_singleton.1 hu; rfl) ?_ ?_ ?_ ?_; (unfold maxLen; omega); omega; (simp [re_heap]; omega); intro stv' w3 hown' hgrow hnil hloc)
      refine fun hF3 _ => ?_
      have hR3 := (hR.re_ hrv).app_chan hF3 hown' hgrow hloc
      clear hst hgrow hown' hloc hnil hi hz0 hz1 hz2
      refine kLift closedS hK hF3 (by kernel_rfl) (by k_ne) fun t2 => ?_
      obtain ⟨i0, hi, hz0, hz1, hz2⟩ := info_parts int_info
      have hmv : (w3.re t2 0).ownsRow v.heap.size 3 1 mv out.length (ints out) := hR3.hmv
      have hvu3 := hR3.rv.size
      go_wp2_with (at_builtin; refine wpList_append_own_at _ rfl _ _ 25 rfl v.heap.size 3 i0 (.int .i64 0) 1 8 Try.underlying25 hi hz0 hz1 hz2 rfl (by decide) mv _ _ rfl (hmv.alloc _) ⟨(w3.re t2 0).heap.size, 0, none⟩ 1 1 [.int .i64 y] rfl rfl (cell_one_new _ _ _) (by intro u hu; obtain rfl := List.mem_singleton.1 hu; rfl) ?_ ?_ ?_ ?_; (unfold maxLen; omega); omega; (simp [re_heap]; omega); intro mv' w4 hown' hgrow hnil hloc)
      refine fun hF4 _ => ?_
      have hR4 := hR3.app_int hF4 hown' hgrow
      clear hmv hgrow hown' hloc hnil hi hz0 hz1 hz2
      have hi64 : IntKind.i64.wrap ((p : Int) + 1) = ((p + 1 : Nat) : Int) := by rw [IntKind.wrap_i64]; omega
      refine kInBlock hK hF4 (kRegion hK hF4 ?_)
      refine kOp closedS.bodies hK hF4 (val := .int .i64 ((p + 1 : Nat) : Int)) (by k_ne) rfl rfl (by kernel_rfl) (fun v₁ hv => by go_simp; try simp [hi64]) ?_
      walk_nrm
      refine kOp closedS.bodies hK hF4 (val := .int .i64 ((p + 1 : Nat) : Int)) (by k_ne) rfl rfl (by kernel_rfl) (fun v₁ hv => by go_simp) ?_
      walk_nrm
      refine kRegEnd hK hF4 (kInLoop hK hF4 ?_)
      have h9 := ih (p + 1) (by rw [← List.drop_drop, hd]; rfl) (by simp only [List.length_cons] at hp; omega) _ _ _ _ _ _ _ hR4 (by simp; omega) (by simp only [List.length_cons] at ho; simp; omega) (fun γ' u' stv' mv' h' => h γ' u' stv' mv' (by simpa [runR, runStill, runOut, hRi] using h'))
      exact h9 _ _ _ _ _ _ _ _ _ _ _ _ _ _ _ _ _ _ _ _ _ _ _ _ _ _ _ _ _ _ _ _ _ _ _ _ _ _ _ _ _ _ _ _ _ _ _ _ _ _ _ _ _ _ _ _ _ _ _ _ _ _ _ _ _ _ _ _ _ _ _ _ _ _ _ _ _ _ _ _ _ _ _ _ _ _ _ _ _ _ _ _ _ _ _ _ _
    · have hK := kn_ok (P := Try.prog) (ty := 47) (Wg := Wg) (Base := Base) (Post := Post) (l.length + N) γ
      have hrv := hR.rv.same i [] hRi
      walk_nrm
      refine kOp closedS.bodies hK hF (val := .tuple #[.int .i64 0, .bool false]) (by k_ne) rfl rfl (by kernel_rfl) (fun v₁ hv => by go_simp) ?_
      walk_nrm
      refine kOp closedS.bodies hK hF (val := .int .i64 0) (by k_ne) rfl rfl (by kernel_rfl) (fun v₁ hv => by go_simp) ?_
      walk_nrm
      refine kOp closedS.bodies hK hF (val := .bool false) (by k_ne) rfl rfl (by kernel_rfl) (fun v₁ hv => by go_simp) ?_
      walk_nrm
      refine kOp closedS.bodies hK hF (val := .int .i64 0) (by k_ne) rfl rfl (by kernel_rfl) (fun v₁ hv => by go_simp) ?_
      walk_nrm
      refine kOp closedS.bodies hK hF (val := .bool false) (by k_ne) rfl rfl (by kernel_rfl) (fun v₁ hv => by go_simp) ?_
      walk_nrm
      refine kRegEnd hK hF (kSeq hK hF (kRegion hK hF ?_))
      refine kOp closedS.bodies hK hF (val := .bool false) (by k_ne) rfl rfl (by kernel_rfl) (fun v₁ hv => by go_simp) ?_
      walk_nrm
      refine kRegEnd hK hF (kCond hK hF (t := false) (by rfl) ?_)
      simp only [Bool.false_eq_true, if_false]
      refine kSkip hK hF ?_
      have hi64 : IntKind.i64.wrap ((p : Int) + 1) = ((p + 1 : Nat) : Int) := by rw [IntKind.wrap_i64]; omega
      refine kInBlock hK hF (kRegion hK hF ?_)
      refine kOp closedS.bodies hK hF (val := .int .i64 ((p + 1 : Nat) : Int)) (by k_ne) rfl rfl (by kernel_rfl) (fun v₁ hv => by go_simp; try simp [hi64]) ?_
      walk_nrm
      refine kOp closedS.bodies hK hF (val := .int .i64 ((p + 1 : Nat) : Int)) (by k_ne) rfl rfl (by kernel_rfl) (fun v₁ hv => by go_simp) ?_
      walk_nrm
      refine kRegEnd hK hF (kInLoop hK hF ?_)
      have h9 := ih (p + 1) (by rw [← List.drop_drop, hd]; rfl) (by simp only [List.length_cons] at hp; omega) _ _ _ _ _ _ _ (hR.re_ hrv) (by omega) (by simp only [List.length_cons] at ho; omega) (fun γ' u' stv' mv' h' => h γ' u' stv' mv' (by simpa [runR, runStill, runOut, hRi] using h'))
      exact h9 _ _ _ _ _ _ _ _ _ _ _ _ _ _ _ _ _ _ _ _ _ _ _ _ _ _ _ _ _ _ _ _ _ _ _ _ _ _ _ _ _ _ _ _ _ _ _ _ _ _ _ _ _ _ _ _ _ _ _ _ _ _ _ _ _ _ _ _ _ _ _ _ _ _ _ _ _ _ _ _ _ _ _ _ _ _ _ _ _ _ _ _ _ _ _ _ _
end
end Go.Proofs.Ytoimhdhplebhgaa
