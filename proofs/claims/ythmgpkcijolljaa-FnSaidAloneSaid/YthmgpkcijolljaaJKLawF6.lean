/-
  The law FnSaidAlone, walked beside leavers: as many are heard as there was company. No condition.
-/
import Derived.Test.YthmgpkcijolljaaJ3
namespace Go.Proofs.Ythmgpkcijolljaa
open Go.Conc Go.RowKit Go.Conc.Lib Go.ConcR.Gen
set_option linter.unusedSimpArgs false
set_option linter.unusedVariables false
set_option maxRecDepth 100000 in
set_option maxHeartbeats 16000000 in
theorem said_loop {g : Int} {ls : List Dd} {A : Option Addr} {c : Nat} {Aa : Option Addr} {la ca nn : Nat} (hm : meetB g ls = true) (hls : ls.length ≤ 13) (hc : ls.length ≤ c) (hcm : c ≤ maxLen) (hla : la ≤ saysTo ls ls.length) (hnn : nn = cntN g.toNat (futAt ls ls.length)) :
  ∀ m k, k + m = ls.length → ∀ (T : Array Value) (v : World), Flat Try.prog v → RD v v.heap.size A ls → HdSd g A ls.length c Aa la ca nn (cntN g.toNat (futAt ls k)) (saysTo ls k) k T →
   KA KL (G ((Conc.base 5).at ⟨T, []⟩ [.code LS, .inLoop LS, .inBlock 0, .code ES]) []) v := by
 have hK := kl_ok
 intro m
 induction m with
 | zero =>
  intro k hk T v hF hRD hT
  obtain rfl : k = ls.length := by omega
  have htail := fun T' hT' => said_tail (g := g) (ls := ls) (A := A) (c := c) (Aa := Aa) (la := la) (ca := ca) (nn := nn) (sm := cntN g.toNat (futAt ls ls.length)) (sd := saysTo ls ls.length) (k := ls.length) hm hls hc hcm hnn hla rfl (by rw [hnn]; exact cnt_says (meetB_true hm).2.2.2 ls.length) T' v hF hRD hT'
  have Ht := Lib.hid htail
  obtain ⟨hz, t3, t4, t5, t9, t10, t11, t12⟩ := hT
  obtain ⟨f, hf, hT⟩ := arr143 hz
  rw [hf] at t3 t4 t5 t9 t10 t11 t12
  subst hT
  rw [t3, t4, t5, t9, t10, t11, t12]
  have hlt : ¬ (ls.length : Int) < (ls.length : Int) := by omega
  clear hz hf t3 t4 t5 t9 t10 t11 t12 htail hRD
  refine kCode LS_eq (kSeq hK hF (kSeq hK hF (kRegion hK hF ?_)))
  refine kOp closedS.bodies hK hF (val := .int .i64 ls.length) (by k_ne) rfl rfl (by kernel_rfl) (fun v₁ hv => by go_simp <;> rfl) ?_
  walk_nrm
  refine kOp closedS.bodies hK hF (val := .slice A ls.length c) (by k_ne) rfl rfl (by kernel_rfl) (fun v₁ hv => by go_simp <;> rfl) ?_
  walk_nrm
  refine kOp closedS.bodies hK hF (val := .int .i64 ls.length) (by k_ne) rfl rfl (by kernel_rfl) (fun v₁ hv => by go_simp <;> rfl) ?_
  walk_nrm
  refine kOp closedS.bodies hK hF (val := .bool false) (by k_ne) rfl rfl (by kernel_rfl) (fun v₁ hv => by go_simp <;> first | rfl | simp [hlt]) ?_
  walk_nrm
  refine kRegEnd hK hF (kCond hK hF (t := false) (by rfl) ?_)
  simp only [Bool.false_eq_true, if_false]
  refine kExit hK hF (k' := _) (by rfl) ?_
  exact Ht.out _ ⟨rfl, rfl, rfl, rfl, rfl, rfl, rfl, rfl⟩
 | succ m ih =>
  intro k hk T v hF hRD hT
  have hkl : k < ls.length := by omega
  have ih' := fun T' v' hF' hR' hT' => ih (k + 1) (by omega) T' v' hF' hR' hT'
  have Hih := Lib.hid ih'
  clear ih ih' hnn
  obtain ⟨ad, rfl, hb, c1, c2, c3⟩ := hRD.at_ hkl
  have hcnt := cnt_step (n := g.toNat) hkl
  have hsay := saysTo_succ hkl
  have hco := coL_at hm hkl
  have hcol := co_lt (n := g.toNat) (on := onAt ls k) (g := ls[k].2.1.toNat)
  have hg5 := (meetB_true hm).2.1
  have hg1 := (meetB_true hm).1
  have hsm1 : cntN g.toNat (futAt ls k) ≤ 5 * 13 := by
   have h1 := cntN_le (n := g.toNat) (m := k) (H := futAt ls k) (fun q => futAt_len ls q k)
   have h2 : g.toNat * k ≤ 5 * 13 := Nat.mul_le_mul (by omega) (by omega)
   omega
  have hsd1 := saysTo_len ls k
  obtain ⟨d, hd⟩ : ∃ d, ls[k] = d := ⟨_, rfl⟩
  rw [hd] at c1 c2 c3 hcnt hsay hco hcol
  obtain ⟨s, z, z'⟩ := d
  simp only at c1 c2 c3
  have hisay : isSay (s, z, z') = (s.toList == [115, 97, 121]) := rfl
  rw [hisay] at hcnt hsay
  obtain ⟨sm, hsm⟩ : ∃ x, x = cntN g.toNat (futAt ls k) := ⟨_, rfl⟩
  obtain ⟨sd, hsd⟩ : ∃ x, x = saysTo ls k := ⟨_, rfl⟩
  rw [← hsm] at hcnt hsm1 hT
  rw [← hsd] at hsay hsd1 hT
  have HC := Lib.hid (And.intro hcnt (And.intro hsay (And.intro hco hcol)))
  have hsd64 : IntKind.i64.wrap ((sd : Int) + 1) = ((sd + 1 : Nat) : Int) := by rw [IntKind.wrap_i64]; omega
  have hd64 : wrap64 ((sd : Int) + 1) = (sd : Int) + 1 := by unfold wrap64; omega
  obtain ⟨hz, t3, t4, t5, t9, t10, t11, t12⟩ := hT
  obtain ⟨f, hf, hT⟩ := arr143 hz
  rw [hf] at t3 t4 t5 t9 t10 t11 t12
  subst hT
  rw [t3, t4, t5, t9, t10, t11, t12]
  have hlt : (k : Int) < (ls.length : Int) := by omega
  clear hz hf t3 t4 t5 t9 t10 t11 t12 hsm hsd hcnt hsay hco hcol hisay hd
  refine kCode LS_eq (kSeq hK hF (kSeq hK hF (kRegion hK hF ?_)))
  refine kOp closedS.bodies hK hF (val := .int .i64 k) (by k_ne) rfl rfl (by kernel_rfl) (fun v₁ hv => by go_simp <;> rfl) ?_
  walk_nrm
  refine kOp closedS.bodies hK hF (val := .slice (some ad) ls.length c) (by k_ne) rfl rfl (by kernel_rfl) (fun v₁ hv => by go_simp <;> rfl) ?_
  walk_nrm
  refine kOp closedS.bodies hK hF (val := .int .i64 ls.length) (by k_ne) rfl rfl (by kernel_rfl) (fun v₁ hv => by go_simp <;> rfl) ?_
  walk_nrm
  refine kOp closedS.bodies hK hF (val := .bool true) (by k_ne) rfl rfl (by kernel_rfl) (fun v₁ hv => by go_simp <;> first | rfl | simp [hlt]) ?_
  walk_nrm
  refine kRegEnd hK hF (kCond hK hF (t := true) (by rfl) ?_)
  simp only [if_true]
  refine kSkip hK hF (kSeq hK hF (kBlock hK hF (kSeq hK hF (kLift closedS hK hF (by kernel_rfl) (by k_ne) fun t => ?_))))
  generalize hQ : Behind _ _ _ _ _ = Q
  have d1 : (v.re t 0).cell? (ad.add (k * 3)) = some (.string s) := c1
  go_wp2
  subst hQ
  refine fun hF2 _ => KA.re ?_
  clear d1
  have hF2 := hF
  refine kCond hK hF (t := s.toList == [115, 97, 121]) (by rfl) ?_
  cases hs : s.toList == [115, 97, 121]
  ·simp only [Bool.false_eq_true, if_false]
   obtain ⟨hcnt, hsay, _⟩ := HC.out
   rw [hs] at hcnt hsay
   simp only [Bool.false_eq_true, if_false, Nat.add_zero] at hcnt hsay
   refine kSkip hK hF (said_next hF (g := g) (A := some ad) (n := ls.length) (c := c) (Aa := Aa) (la := la) (ca := ca) (nn := nn) (sm := sm) (sd := sd) (k := k) ⟨rfl, rfl, rfl, rfl, rfl, rfl, rfl, rfl⟩ (by omega) fun T' hT' => ?_)
   exact Hih.out T' v hF hRD (by rw [hcnt, hsay]; exact hT')
  ·simp only [if_true]
   obtain ⟨hcnt, hsay, hco, hcol⟩ := HC.out
   rw [hs] at hcnt hsay
   simp only [if_true] at hcnt hsay
   refine kSeq hK hF (kLift closedS hK hF (by kernel_rfl) (by k_ne) fun t => ?_)
   generalize hQ : Behind _ _ _ _ _ = Q
   have Hs := Lib.hid hs
   clear hcnt hsay hco hcol hs
   go_wp2
   subst hQ
   refine fun _ _ => KA.re ?_
   obtain ⟨hcnt, hsay, hco, hcol⟩ := HC.out
   refine kT fun T0 hT0 => ?_
   have z0 : T0.size = 143 := by rw [hT0]; rfl
   have g3 : T0.getD 3 undef = .int .i64 g := by rw [hT0]; rfl
   have g4 : T0.getD 4 undef = .slice (some ad) ls.length c := by rw [hT0]; rfl
   have g5 : T0.getD 5 undef = .slice Aa la ca := by rw [hT0]; rfl
   have g9 : T0.getD 9 undef = .int .i64 nn := by rw [hT0]; rfl
   have g10 : T0.getD 10 undef = .int .i64 sm := by rw [hT0]; rfl
   have g11 : T0.getD 11 undef = .int .i64 ((sd + 1 : Nat) : Int) := by rw [hT0]; show Value.int .i64 _ = _; congr 1
   have g12 : T0.getD 12 undef = .int .i64 k := by rw [hT0]; rfl
   clear hT0
   have hc63 : c ≤ 9223372036854775807 := by unfold maxLen at hcm; omega
   have hlk : (ls.take k).length = k := by rw [List.length_take]; omega
   refine kOne (F := (F5a sm g ad ls.length c k z none 0 0)) (T0 := T0) (ops := ops5a) closedS.bodies (by kernel_rfl) hK hF (by k_ne) [0, 1, 2, 3, 4, 5, 6, 7, 8, 9] (by kernel_rfl) (m := 10) (by rw [size5a]; decide) (by decide) (by kernel_rfl) (fun j hj => ?_) fun dd r hd hC hL => ?_
   ·by_cases hj0 : j = 0
    ·subst hj0; exact quiet5a0 g10
    ·have hj' : j = 1 ∨ j = 2 ∨ j = 3 ∨ j = 4 ∨ j = 5 ∨ j = 6 ∨ j = 7 ∨ j = 8 ∨ j = 9 ∨ j = 11 ∨ j = 12 ∨ j = 13 := by
      simp at hj; omega
     exact (quiet5a c2 hkl hc hc63 (by omega) z0 g3 g4 g12 j hj').s
   have e92 := fill_ev (F := (F5a sm g ad ls.length c k z none 0 0)) (T0 := T0) apart5a (i := 1) (s := 92) (by kernel_rfl) (by omega) (hL.waits o5a_10 (k := 1) (by kernel_rfl)) []
   have e95 := fill_ev (F := (F5a sm g ad ls.length c k z none 0 0)) (T0 := T0) apart5a (i := 4) (s := 95) (by kernel_rfl) (by omega) (hL.waits o5a_10 (k := 4) (by kernel_rfl)) []
   have e100 := fill_ev (F := (F5a sm g ad ls.length c k z none 0 0)) (T0 := T0) apart5a (i := 9) (s := 100) (by kernel_rfl) (by omega) (hL.waits o5a_10 (k := 9) (by kernel_rfl)) []
   refine company_call (l := ls.take k) (who := z) (g := g) (cp := c) o5a_10 rfl (by k_ne) rfl e92 (by rw [hlk]; exact e95) e100 hF (RD.take hRD (by omega)) (by rw [hlk]; omega) (fun w2 u hF2 e2 hG => ?_)
   rw [hco] at hG
   obtain ⟨L2, hL2⟩ : ∃ L, L = (co g.toNat (onAt ls k) z.toNat).map fun (q : Nat) => (q : Int) := ⟨_, rfl⟩
   rw [← hL2] at hG
   have hl2 : L2.length = (co g.toNat (onAt ls k) z.toNat).length := by rw [hL2, List.length_map]
   obtain ⟨Au, cu, rfl⟩ := own_form hG
   have hl5 : L2.length ≤ 5 := by rw [hl2]; omega
   have hRD2 := hRD.ups e2
   have c22 := e2.cell c2
   have ecg : fillT ops5a (F5a sm g ad ls.length c k z none 0 0) T0 dd = fillT ops5a (F5a sm g ad ls.length c k z Au L2.length cu) T0 dd := fillT_congr fun j hj => by
    have := hd j hj
    simp at this
    rcases this with rfl | rfl | rfl | rfl | rfl | rfl | rfl | rfl | rfl | rfl <;> rfl
   have hfin := kRest (F := (F5a sm g ad ls.length c k z Au L2.length cu)) (T0 := T0) (ops := ops5a) (b := Conc.base 5) (df := []) (k := [.inBlock 1, .code (.region 12 O5_12 false), .inLoop LS, .inBlock 0, .code ES]) (cs := []) (m := 10) closedS.bodies hK hF2 (by k_ne) (fun j hj hj10 => ?_) (fun d' hd' => ?_) (d := dd) (r := r) (fun j hj => by have := hd j hj; simp at this; rw [size5a]; omega) hC hL
   ·have hput : (Act.mk (fillT ops5a (F5a sm g ad ls.length c k z Au L2.length cu) T0 dd) []).put (some 101) (.slice Au L2.length cu) = ⟨fillT ops5a (F5a sm g ad ls.length c k z Au L2.length cu) T0 (10 :: dd), []⟩ := fill_put o5a_10 rfl
    rw [← hput, ← ecg] at hfin
    exact hfin
   ·rw [size5a] at hj
    by_cases hj0 : j = 0
    ·subst hj0; exact quiet5a0 g10
    ·have hj' : j = 1 ∨ j = 2 ∨ j = 3 ∨ j = 4 ∨ j = 5 ∨ j = 6 ∨ j = 7 ∨ j = 8 ∨ j = 9 ∨ j = 11 ∨ j = 12 ∨ j = 13 := by omega
     exact (quiet5a c22 hkl hc hc63 (by omega) z0 g3 g4 g12 j hj').s
   ·refine kRegEnd hK hF2 ?_
    have y3 := (fill_old (ops := ops5a) (F := (F5a sm g ad ls.length c k z Au L2.length cu)) (T0 := T0) (s := 3) (by kernel_rfl) d' []).trans g3
    have y4 := (fill_old (ops := ops5a) (F := (F5a sm g ad ls.length c k z Au L2.length cu)) (T0 := T0) (s := 4) (by kernel_rfl) d' []).trans g4
    have y5 := (fill_old (ops := ops5a) (F := (F5a sm g ad ls.length c k z Au L2.length cu)) (T0 := T0) (s := 5) (by kernel_rfl) d' []).trans g5
    have y9 := (fill_old (ops := ops5a) (F := (F5a sm g ad ls.length c k z Au L2.length cu)) (T0 := T0) (s := 9) (by kernel_rfl) d' []).trans g9
    have y10 := fill_ev (F := (F5a sm g ad ls.length c k z Au L2.length cu)) (T0 := T0) apart5a (i := 13) (s := 10) (by kernel_rfl) (by omega) (hd' 13 (by rw [size5a]; decide)) []
    have y11 := (fill_old (ops := ops5a) (F := (F5a sm g ad ls.length c k z Au L2.length cu)) (T0 := T0) (s := 11) (by kernel_rfl) d' []).trans g11
    have y12 := (fill_old (ops := ops5a) (F := (F5a sm g ad ls.length c k z Au L2.length cu)) (T0 := T0) (s := 12) (by kernel_rfl) d' []).trans g12
    have yz := (fillT_size (ops := ops5a) (F := (F5a sm g ad ls.length c k z Au L2.length cu)) (T0 := T0) d').trans z0
    rw [Hs.out] at hcnt hsay
    simp only [if_true] at hcnt hsay
    refine said_next hF2 (g := g) (A := some ad) (n := ls.length) (c := c) (Aa := Aa) (la := la) (ca := ca) (nn := nn) (sm := sm + L2.length) (sd := sd + 1) (k := k) ⟨yz, y3, y4, y5, y9, y10.trans (by show Value.int .i64 _ = _; congr 1), y11, y12⟩ (by omega) fun T' hT' => ?_
    exact Hih.out T' w2 hF2 hRD2 (by rw [hcnt, hsay, ← hl2]; exact hT')
set_option maxRecDepth 100000 in
set_option maxHeartbeats 16000000 in
theorem FnSaidAlone_wins (A0 : Option Addr) (l0 : List Int) (c0 : Nat) (W : World) (h0 : Reads W W.heap.size 1 A0 l0.length (l0.map (Value.int .u8))) (hc0 : l0.length ≤ c0) (hm0 : c0 ≤ maxLen) (hw0 : ∀ x ∈ l0, (Lit.int .u8 x).wf = true) :
  KA KL (G (Frame.enter Try.prog 5 #[.slice A0 l0.length c0] .normal) []) W.shutAll := by
 have hF := (shutAll_veil noGlobals W).flat
 have hRB : RB W.shutAll W.shutAll.heap.size A0 l0 := ⟨shutAll_reads h0, fun x hx => wf_u8' (hw0 x hx)⟩
 generalize W.shutAll = v at hF hRB ⊢
 have HM := Lib.hid hm0
 clear h0 hw0 hm0
 have hK := kl_ok
 rw [enter_at _ Try.func5 rfl]
 walk_nrmf Try.f5
 refine kSeq hK hF (kLift closedS hK hF (by kernel_rfl) (by k_ne) fun t => ?_)
 generalize hQ : Behind _ _ _ _ _ = Q
 go_wp2
 subst hQ
 refine fun _ _ => KA.re ?_
 by_cases hn0 : l0.length ≤ 1048576
 case neg =>
  have h' : 1048576 < l0.length := by omega
  clear hRB hn0
  refine kSeq hK hF (kLift closedS hK hF (by kernel_rfl) (by k_ne) fun t => ?_)
  generalize hQ : Behind _ _ _ _ _ = Q
  go_wp2
  subst hQ
  refine fun todo _ _ => KA.re ?_
  exact law_ret rfl rfl Try.func5 rfl (by kernel_rfl) rfl
 refine kSeq hK hF (kLift closedS hK hF (by kernel_rfl) (by k_ne) fun t => ?_)
 generalize hQ : Behind _ _ _ _ _ = Q
 go_wp2
 subst hQ
 refine fun _ _ => KA.re ?_
 refine kSeq hK hF (kLift closedS hK hF (by kernel_rfl) (by k_ne) fun t => ?_)
 generalize hQ : Behind _ _ _ _ _ = Q
 have hRt : RB (v.re t 0) (v.re t 0).heap.size A0 l0 := hRB.keep fun _ _ => rfl
 go_wp2_with fail
 refine (DrawSaidAlone_any A0 c0 l0 _ hRt hc0 HM.out hn0).mono ?_
 rintro e w1 ⟨g, ls, A, c, rfl, h13, hlc, hcm, hRD, hb⟩
 go_wp2_with fail
 subst hQ
 refine fun hF1 _ => ?_
 clear hb hRt hRB hn0 hc0
 have hlen : (aloneL g ls).length ≤ 1048576 := aloneL_len _ _
 obtain ⟨L, hL⟩ : ∃ L, L = aloneL g ls := ⟨_, rfl⟩
 have HL := Lib.hid hL
 rw [← hL] at hlen
 clear hL
 refine kSeq hK hF1 (kRegion hK hF1 ?_)
 refine kOp closedS.bodies hK hF1 (val := .int .i64 g) (by k_ne) rfl rfl (by kernel_rfl) (fun v₁ hv => by go_simp <;> rfl) ?_
 walk_nrm
 refine kOp closedS.bodies hK hF1 (val := .slice A ls.length c) (by k_ne) rfl rfl (by kernel_rfl) (fun v₁ hv => by go_simp <;> rfl) ?_
 walk_nrm
 refine alone_call rfl rfl (by k_ne) rfl rfl rfl hF1 hRD (by omega) (fun w2 u hF2 e2 hG => ?_)
 rw [← HL.out] at hG
 obtain ⟨Ag, cg, rfl⟩ := own_form hG
 have hRD2 := hRD.ups e2
 obtain ⟨bo, hbo⟩ : ∃ b, b = meetB g ls := ⟨_, rfl⟩
 have Hbo := Lib.hid hbo
 rw [← hbo]
 have hbb : (bo != bo) = false := by simp
 have hbe : (bo == bo) = true := by simp
 clear hbo
 walk_nrm
 refine kOp closedS.bodies hK hF2 (val := .tuple #[.slice Ag L.length cg, .bool bo]) (by k_ne) rfl rfl (by kernel_rfl) (fun v₁ hv => by go_simp <;> rfl) ?_
 walk_nrm
 refine kOp closedS.bodies hK hF2 (val := .slice Ag L.length cg) (by k_ne) rfl rfl (by kernel_rfl) (fun v₁ hv => by go_simp <;> rfl) ?_
 walk_nrm
 refine kOp closedS.bodies hK hF2 (val := .bool bo) (by k_ne) rfl rfl (by kernel_rfl) (fun v₁ hv => by go_simp <;> rfl) ?_
 walk_nrm
 refine kOp closedS.bodies hK hF2 (val := .slice Ag L.length cg) (by k_ne) rfl rfl (by kernel_rfl) (fun v₁ hv => by go_simp <;> rfl) ?_
 walk_nrm
 refine kOp closedS.bodies hK hF2 (val := .bool bo) (by k_ne) rfl rfl (by kernel_rfl) (fun v₁ hv => by go_simp <;> rfl) ?_
 walk_nrm
 refine kRegEnd hK hF2 (kSeq hK hF2 (kLift closedS hK hF2 (by kernel_rfl) (by k_ne) fun t => ?_))
 generalize hQ : Behind _ _ _ _ _ = Q
 have hRD3 : RD (w2.re t 0) (w2.re t 0).heap.size A ls := hRD2
 go_wp2_with fail
 refine (sSaidAlone_any A c g ls _ hRD3 (by omega)).mono ?_
 rw [← HL.out, ← Hbo.out]
 rintro e w3 ⟨As, cs3, rfl, hS, hb3⟩
 go_wp2_with fail
 subst hQ
 refine fun hF3 _ => ?_
 have e3 : Ups w2 w3 := ups_of (v := w2) (t := t) hb3
 have hRD4 := hRD2.ups e3
 have hRI3 : RI w3 w3.heap.size Ag L := ((RI.of_own hG).ups (Nat.le_refl _) e3).more e3.size
 have hSI3 : RI w3 w3.heap.size As L := RI.of_own hS
 clear hRD3 hS hb3 hG hRD2 hRD hF hF1 hF2
 refine kSeq hK hF3 (kRegion hK hF3 ?_)
 refine kOp closedS.bodies hK hF3 (val := .int .i64 g) (by k_ne) rfl rfl (by kernel_rfl) (fun v₁ hv => by go_simp <;> rfl) ?_
 walk_nrm
 refine kOp closedS.bodies hK hF3 (val := .slice A ls.length c) (by k_ne) rfl rfl (by kernel_rfl) (fun v₁ hv => by go_simp <;> rfl) ?_
 walk_nrm
 refine count_call rfl rfl (by k_ne) rfl rfl rfl hF3 hRD4 (by omega) (fun w4 hF4 e4 => ?_)
 have hRD5 := hRD4.ups e4
 have hRI4 : RI w4 w4.heap.size Ag L := (hRI3.ups (Nat.le_refl _) e4).more e4.size
 have hSI4 : RI w4 w4.heap.size As L := (hSI3.ups (Nat.le_refl _) e4).more e4.size
 clear hRD4 hRI3 hSI3 hF3
 walk_nrm
 cases bo
 ·have hm := Hbo.out.symm
  rw [cntI_no hm]
  refine kOp closedS.bodies hK hF4 (val := .int .i64 (-1)) (by k_ne) rfl rfl (by kernel_rfl) (fun v₁ hv => by go_simp <;> rfl) ?_
  walk_nrm
  refine kRegEnd hK hF4 (kSeq hK hF4 (kLift closedS hK hF4 (by kernel_rfl) (by k_ne) fun t => ?_))
  generalize hQ : Behind _ _ _ _ _ = Q
  have hRt : RD (w4.re t 0) (w4.re t 0).heap.size A ls := hRD5
  have hIt : RI (w4.re t 0) (w4.re t 0).heap.size Ag L := hRI4
  have hSt : RI (w4.re t 0) (w4.re t 0).heap.size As L := hSI4
  have hc1 := fun (w : World) (h : RD w w.heap.size A ls) => sCountHeard_any A c g ls w h (by omega)
  rw [cntI_no hm] at hc1
  generalize w4.re t 0 = wt at hRt hIt hSt ⊢
  clear hRD5 hRI4 hSI4 hm
  go_wp2_with fail
  refine (cbSame_same Ag As cg cs3 L wt _ _ hIt hSt hlen).mono ?_
  rintro e w5 ⟨rfl, n5, rfl⟩
  go_wp2_with fail
  refine (hc1 _ (hRt.drewN n5)).mono ?_
  rintro e w6 ⟨rfl, hb6⟩
  have hI6 : RI w6 wt.heap.size Ag L := (hIt.drewN n5).below hb6
  have hS6 : RI w6 wt.heap.size As L := (hSt.drewN n5).below hb6
  have hR6 : RD w6 w6.heap.size A ls := ((hRt.drewN n5).below hb6).more hb6.size
  clear hb6
  go_wp2_with fail
  refine (cbSame_same Ag As cg cs3 L w6 _ _ hI6 hS6 hlen).mono ?_
  rintro e w7 ⟨rfl, n7, rfl⟩
  go_wp2_with fail
  refine (hc1 _ (hR6.drewN n7)).mono ?_
  rintro e w8 ⟨rfl, hb8⟩
  go_wp2_with fail
  subst hQ
  refine fun todo _ _ => ?_
  exact law_ret rfl rfl Try.func5 rfl (by kernel_rfl) rfl
 ·have hm := Hbo.out.symm
  obtain ⟨cv, hcv⟩ : ∃ cv, cv = cntN g.toNat (fut on0 ls) := ⟨_, rfl⟩
  have hce : cntI g ls = (cv : Int) := by rw [cntI_yes hm, hcv]
  rw [hce]
  refine kOp closedS.bodies hK hF4 (val := .int .i64 cv) (by k_ne) rfl rfl (by kernel_rfl) (fun v₁ hv => by go_simp <;> rfl) ?_
  walk_nrm
  refine kRegEnd hK hF4 (kSeq hK hF4 (kLift closedS hK hF4 (by kernel_rfl) (by k_ne) fun t => ?_))
  generalize hQ : Behind _ _ _ _ _ = Q
  have hRt : RD (w4.re t 0) (w4.re t 0).heap.size A ls := hRD5
  have hIt : RI (w4.re t 0) (w4.re t 0).heap.size Ag L := hRI4
  have hSt : RI (w4.re t 0) (w4.re t 0).heap.size As L := hSI4
  have hc1 := fun (w : World) (h : RD w w.heap.size A ls) => sCountHeard_any A c g ls w h (by omega)
  rw [hce] at hc1
  have hcc : ((cv : Int) != (cv : Int)) = false := by simp
  have Hm := Lib.hid (And.intro hm hcv)
  clear hm hcv hce
  go_wp2_with fail
  refine (cbSame_same Ag As cg cs3 L _ _ _ hIt hSt hlen).mono ?_
  rintro e w5 ⟨rfl, n5, rfl⟩
  go_wp2_with fail
  refine (hc1 _ (hRt.drewN n5)).mono ?_
  rintro e w6 ⟨rfl, hb6⟩
  go_wp2_with fail
  subst hQ
  refine fun hF6 _ => ?_
  have e6 : Ups w4 w6 := ⟨hb6.size, hb6.block⟩
  have hRD6 := hRD5.ups e6
  clear hRt hIt hSt hc1 hb6 hRD5 hRI4 hSI4 hF4
  refine kSeq hK hF6 (kLift closedS hK hF6 (by kernel_rfl) (by k_ne) fun t => ?_)
  generalize hQ : Behind _ _ _ _ _ = Q
  go_wp2
  subst hQ
  refine fun _ _ => KA.re ?_
  refine kSeq hK hF6 (kSeq hK hF6 (kRegion hK hF6 ?_))
  refine kOp closedS.bodies hK hF6 (val := .int .i64 0) (by k_ne) rfl rfl (by kernel_rfl) (fun v₁ hv => by go_simp <;> rfl) ?_
  walk_nrm
  refine kRegEnd hK hF6 (kBlock hK hF6 (kLoop hK hF6 ?_))
  obtain ⟨hm, hcv⟩ := Hm.out
  have hla : L.length ≤ saysTo ls ls.length := by
   rw [HL.out, aloneL_yes hm, ← aloneAt_all]
   exact alone_says _ ls ls.length
  have h0c : cntN g.toNat (futAt ls 0) = 0 := by
   have := cntN_le (n := g.toNat) (m := 0) (H := futAt ls 0) (fun q => by rw [futAt_zero]; exact Nat.le_refl _)
   omega
  have h0s : saysTo ls 0 = 0 := by simp [saysTo]
  have hcv2 : cv = cntN g.toNat (futAt ls ls.length) := by
   rw [hcv]; congr 1; funext q; exact (futAt_all ls q).symm
  exact said_loop (g := g) (ls := ls) (A := A) (c := c) (Aa := Ag) (la := L.length) (ca := cg) (nn := cv) hm h13 hlc hcm hla hcv2 ls.length 0 (by omega) _ _ hF6 hRD6 ⟨rfl, rfl, rfl, rfl, rfl, by rw [h0c]; rfl, by rw [h0s]; rfl, rfl⟩
end Go.Proofs.Ythmgpkcijolljaa
