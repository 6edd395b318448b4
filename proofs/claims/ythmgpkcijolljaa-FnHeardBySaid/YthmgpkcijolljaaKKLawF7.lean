/-
  The law FnHeardBy, walked beside leavers: what each hears, told word by word. No condition.
-/
import Derived.Test.YthmgpkcijolljaaK4
import Derived.Test.YthmgpkcijolljaaK2
namespace Go.Proofs.Ythmgpkcijolljaa
open Go.Conc Go.RowKit Go.Conc.Lib Go.ConcR.Gen
set_option linter.unusedSimpArgs false
set_option linter.unusedVariables false
theorem mkIntN (n : Nat) (h : n ≤ 1000) (W : World) : (Instr.makeSlice 32 (.int .i64 n) (.int .i64 n)).run Try.prog W = .ok (.slice (some ⟨W.heap.size, 0, none⟩) n n) (W.alloc (Obj.cells (Array.replicate n (.int .i64 0)) 3)) := by
 obtain ⟨ic, hi, hz0, hz1, hz2⟩ := info_parts int_info'
 exact run_makeN (P := Try.prog) 32 3 ic _ Try.underlying32 hi hz0 hz1 rfl (by omega) n n (Nat.le_refl _) (by omega) W
theorem atM_zero (n : Nat) (ls : List Dd) : ints (atM n ls 0) = List.replicate n (.int .i64 0) := by
 unfold atM ints
 rw [List.map_map]
 refine List.ext_getElem? fun q => ?_
 rw [List.getElem?_map, List.getElem?_replicate]
 by_cases h : q < n
 ·rw [List.getElem?_range h, if_pos h]; simp [futAt_zero]
 ·rw [List.getElem?_eq_none (by simp; omega), if_neg h]; rfl
theorem own_zeros (w : World) (n : Nat) (hn : n ≤ 1000) (ls : List Dd) : (w.alloc (Obj.cells (Array.replicate n (.int .i64 0)) 3)).ownsRow w.heap.size 3 1 (.slice (some ⟨w.heap.size, 0, none⟩) n n) n (ints (atM n ls 0)) := by
 rw [atM_zero]
 exact ⟨by simp, .inr ⟨_, n, Array.replicate n (.int .i64 0), rfl, Nat.le_refl _, heap_alloc_new w _, Nat.le_refl _, by unfold maxLen; omega, by simp, by simp⟩⟩
set_option maxRecDepth 100000 in
set_option maxHeartbeats 16000000 in
theorem FnHeardBy_wins (A0 : Option Addr) (l0 : List Int) (c0 : Nat) (W : World) (h0 : Reads W W.heap.size 1 A0 l0.length (l0.map (Value.int .u8))) (hc0 : l0.length ≤ c0) (hm0 : c0 ≤ maxLen) (hw0 : ∀ x ∈ l0, (Lit.int .u8 x).wf = true) :
  KA KL (G (Frame.enter Try.prog 8 #[.slice A0 l0.length c0] .normal) []) W.shutAll := by
 have hF := (shutAll_veil noGlobals W).flat
 have hRB : RB W.shutAll W.shutAll.heap.size A0 l0 := ⟨shutAll_reads h0, fun x hx => wf_u8' (hw0 x hx)⟩
 generalize W.shutAll = v at hF hRB ⊢
 have HM := Lib.hid hm0
 clear h0 hw0 hm0
 have hK := kl_ok
 rw [enter_at _ Try.func8 rfl]
 walk_nrmf Try.f8
 refine kSeq hK hF (kLift closedS hK hF (by kernel_rfl) (by k_ne) fun t => ?_)
 generalize hQ : Behind _ _ _ _ _ = Q
 go_wp2
 subst hQ
 refine fun _ _ => KA.re ?_
 by_cases hn0 : l0.length ≤ 1048576
 case neg =>
  have h' : 1048576 < l0.length := by omega
  clear hRB hn0
  refine kSeq hK hF (kLift closedS hK hF (by kernel_rfl) (by k_ne) fun t => ?_)
  generalize hQ : Behind _ _ _ _ _ = Q
  go_wp2
  subst hQ
  refine fun todo _ _ => KA.re ?_
  exact law_ret rfl rfl Try.func8 rfl (by kernel_rfl) rfl
 refine kSeq hK hF (kLift closedS hK hF (by kernel_rfl) (by k_ne) fun t => ?_)
 generalize hQ : Behind _ _ _ _ _ = Q
 go_wp2
 subst hQ
 refine fun _ _ => KA.re ?_
 refine kSeq hK hF (kLift closedS hK hF (by kernel_rfl) (by k_ne) fun t => ?_)
 generalize hQ : Behind _ _ _ _ _ = Q
 have hRt : RB (v.re t 0) (v.re t 0).heap.size A0 l0 := hRB.keep fun _ _ => rfl
 go_wp2_with fail
 refine (DrawHeardBy_any A0 c0 l0 _ hRt hc0 HM.out hn0).mono ?_
 rintro e w1 ⟨g, ls, A, c, rfl, h13, hlc, hcm, hRD, hb⟩
 go_wp2_with fail
 subst hQ
 refine fun hF1 _ => ?_
 clear hb hRt hRB hn0 hc0
 have hl5 := heardL_len g ls
 have hlr := heardL_row (g := g) (l := ls)
 obtain ⟨M, hM⟩ : ∃ M, M = heardL g ls := ⟨_, rfl⟩
 have HM2 := Lib.hid hM
 rw [← hM] at hl5 hlr
 clear hM
 refine kSeq hK hF1 (kRegion hK hF1 ?_)
 refine kOp closedS.bodies hK hF1 (val := .int .i64 g) (by k_ne) rfl rfl (by kernel_rfl) (fun v₁ hv => by go_simp <;> rfl) ?_
 walk_nrm
 refine kOp closedS.bodies hK hF1 (val := .slice A ls.length c) (by k_ne) rfl rfl (by kernel_rfl) (fun v₁ hv => by go_simp <;> rfl) ?_
 walk_nrm
 refine heard_call rfl rfl (by k_ne) rfl rfl rfl hF1 hRD (by omega) (fun w2 Ag cg hF2 e2 hG => ?_)
 rw [← HM2.out] at hG ⊢
 have hRD2 := hRD.ups e2
 obtain ⟨bo, hbo⟩ : ∃ b, b = meetB g ls := ⟨_, rfl⟩
 have Hbo := Lib.hid hbo
 rw [← hbo]
 have hbb : (bo != bo) = false := by simp
 have hbe : (bo == bo) = true := by simp
 clear hbo
 walk_nrm
 refine kOp closedS.bodies hK hF2 (val := .tuple #[.slice Ag M.length cg, .bool bo]) (by k_ne) rfl rfl (by kernel_rfl) (fun v₁ hv => by go_simp <;> rfl) ?_
 walk_nrm
 refine kOp closedS.bodies hK hF2 (val := .slice Ag M.length cg) (by k_ne) rfl rfl (by kernel_rfl) (fun v₁ hv => by go_simp <;> rfl) ?_
 walk_nrm
 refine kOp closedS.bodies hK hF2 (val := .bool bo) (by k_ne) rfl rfl (by kernel_rfl) (fun v₁ hv => by go_simp <;> rfl) ?_
 walk_nrm
 refine kOp closedS.bodies hK hF2 (val := .slice Ag M.length cg) (by k_ne) rfl rfl (by kernel_rfl) (fun v₁ hv => by go_simp <;> rfl) ?_
 walk_nrm
 refine kOp closedS.bodies hK hF2 (val := .bool bo) (by k_ne) rfl rfl (by kernel_rfl) (fun v₁ hv => by go_simp <;> rfl) ?_
 walk_nrm
 refine kRegEnd hK hF2 (kSeq hK hF2 (kLift closedS hK hF2 (by kernel_rfl) (by k_ne) fun t => ?_))
 generalize hQ : Behind _ _ _ _ _ = Q
 have hRD3 : RD (w2.re t 0) (w2.re t 0).heap.size A ls := hRD2
 go_wp2_with fail
 refine (sHeardBy_any A c g ls _ hRD3 (by omega)).mono ?_
 rw [← HM2.out, ← Hbo.out]
 rintro e w3 ⟨As, cs3, rfl, hS3, hb3⟩
 go_wp2_with fail
 subst hQ
 refine fun hF3 _ => ?_
 have e3 : Ups w2 w3 := ups_of (v := w2) (t := t) hb3
 have hRD4 := hRD2.ups e3
 have hG3 : LRd w3 w3.heap.size Ag M := (hG.kept fun b hb => e3.get b hb).more e3.size
 clear hRD3 hb3 hG hRD2 hRD hF hF1 hF2
 have hM1 : M.length ≤ 1000 := by omega
 have hM2 : ∀ l ∈ M, l.length ≤ 1000 := fun l hl => by have := hlr l hl; omega
 clear hlr
 refine kSeq hK hF3 (kLift closedS hK hF3 (by kernel_rfl) (by k_ne) fun t => ?_)
 generalize hQ : Behind _ _ _ _ _ = Q
 have hGt : LRd (w3.re t 0) (w3.re t 0).heap.size Ag M := hG3
 have hSt : LRd (w3.re t 0) (w3.re t 0).heap.size As M := hS3
 have HT := Lib.hid (And.intro hM1 hM2)
 clear hM1 hM2
 cases bo
 ·obtain ⟨wt, hwt⟩ : ∃ wt, wt = w3.re t 0 := ⟨_, rfl⟩
  rw [← hwt] at hGt hSt ⊢
  clear hwt hRD4 hG3 hS3 hF3
  go_wp2_with fail
  refine (cbLists_same Ag As cg cs3 M wt hGt hSt HT.out.1 HT.out.2).mono ?_
  rintro e w5 ⟨rfl, hb5⟩
  have hG5 : LRd w5 w5.heap.size Ag M := (hGt.kept hb5.block).more hb5.size
  have hS5 : LRd w5 w5.heap.size As M := (hSt.kept hb5.block).more hb5.size
  clear hb5 hGt hSt
  go_wp2_with fail
  refine (cbLists_same Ag As cg cs3 M w5 hG5 hS5 HT.out.1 HT.out.2).mono ?_
  rintro e w6 ⟨rfl, hb6⟩
  clear hb6
  go_wp2_with fail
  subst hQ
  refine fun todo _ _ => ?_
  exact law_ret rfl rfl Try.func8 rfl (by kernel_rfl) rfl
 ·have hm := Hbo.out.symm
  have Hm := Lib.hid hm
  clear hm
  go_wp2_with fail
  refine (cbLists_same Ag As cg cs3 M (w3.re t 0) hGt hSt HT.out.1 HT.out.2).mono ?_
  rintro e w5 ⟨rfl, hb5⟩
  go_wp2_with fail
  subst hQ
  refine fun hF5 _ => ?_
  have e5 : Ups w3 w5 := ups_of (v := w3) (t := t) hb5
  have hRD5 := hRD4.ups e5
  have hG5 : LRd w5 w5.heap.size Ag M := (hG3.kept fun b hb => e5.get b hb).more e5.size
  clear hGt hSt hb5 hRD4 hG3 hS3 hF3 e5 e3 e2
  obtain ⟨b1, b2, b3, b4⟩ := meetB_true Hm.out
  obtain ⟨n, hn⟩ : ∃ n : Nat, g = n := ⟨g.toNat, by omega⟩
  have hgn : g.toNat = n := by omega
  have hn5 : n ≤ 5 := by omega
  clear b3 b4 b1 b2
  subst hn
  refine kSeq hK hF5 (kLift closedS hK hF5 (by kernel_rfl) (by k_ne) fun t => ?_)
  generalize hQ : Behind _ _ _ _ _ = Q
  have hmk := mkIntN n (by omega)
  have hO5 := own_zeros (w5.re t 0) n (by omega) ls
  have HO5 := Lib.hid hO5
  clear hO5
  go_wp2
  subst hQ
  refine fun hF6 _ => ?_
  have hO6 := HO5.out
  have hsz : (w5.re t 0).heap.size = w5.heap.size := rfl
  have e6 : Ups w5 ((w5.re t 0).alloc (Obj.cells (Array.replicate n (.int .i64 0)) 3)) := ⟨(Ups.alloc (w5.re t 0) _).size, (Ups.alloc (w5.re t 0) _).get⟩
  have hRD6 : RD ((w5.re t 0).alloc (Obj.cells (Array.replicate n (.int .i64 0)) 3)) (w5.re t 0).heap.size A ls := Reads.ups hRD5 (Nat.le_refl _) e6
  have hG6 : LRd ((w5.re t 0).alloc (Obj.cells (Array.replicate n (.int .i64 0)) 3)) (w5.re t 0).heap.size Ag M := hG5.kept fun b hb => e6.get b hb
  generalize (w5.re t 0).alloc (Obj.cells (Array.replicate n (.int .i64 0)) 3) = w6 at hF6 hO6 hRD6 hG6 ⊢
  clear e6
  generalize (w5.re t 0).heap.size = B at hO6 hRD6 hG6 hsz ⊢
  subst hsz
  refine kSeq hK hF6 (kLift closedS hK hF6 (by kernel_rfl) (by k_ne) fun t => ?_)
  generalize hQ : Behind _ _ _ _ _ = Q
  go_wp2
  subst hQ
  refine fun _ _ => KA.re ?_
  refine kSeq hK hF6 (kSeq hK hF6 (kRegion hK hF6 ?_))
  refine kOp closedS.bodies hK hF6 (val := .int .i64 0) (by k_ne) rfl rfl (by kernel_rfl) (fun v₁ hv => by go_simp <;> rfl) ?_
  walk_nrm
  refine kRegEnd hK hF6 (kBlock hK hF6 (kLoop hK hF6 ?_))
  have hm := Hm.out
  rw [← hgn] at hO6
  have h0a : (aloneAt (n : Int).toNat ls 0).length = 0 := by rw [aloneAt_zero]; rfl
  refine heard_loop (g := (n : Int)) (ls := ls) (A := A) (c := c) (Ah := Ag) (ch := cg) (gat := w5.heap.size) (B := w5.heap.size) (M := M) hm h13 hlc hcm HM2.out (fun T v hF hRD hLR hO hT => heard_tail hm h13 HM2.out T v hF hRD hLR hO hT) ls.length 0 (by omega) _ _ hF6 hRD6 hG6 hO6 ?_
  exact ⟨rfl, rfl, rfl, rfl, by rw [hgn]; rfl, by rw [h0a]; rfl, rfl⟩
end Go.Proofs.Ythmgpkcijolljaa
