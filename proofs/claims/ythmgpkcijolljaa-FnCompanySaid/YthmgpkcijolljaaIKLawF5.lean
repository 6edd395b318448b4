/-
  The law FnCompany, walked beside leavers.
-/
import Derived.Test.YthmgpkcijolljaaH26
import Derived.Test.YthmgpkcijolljaaIS
import Derived.Test.YthmgpkcijolljaaI1
namespace Go.Proofs.Ythmgpkcijolljaa
open Go.Conc Go.RowKit Go.Conc.Lib Go.ConcR.Gen
set_option linter.unusedSimpArgs false
set_option linter.unusedVariables false
theorem wf_u8 {x : Int} (h : (Lit.int .u8 x).wf = true) : 0 ≤ x ∧ x ≤ 255 := by simpa [Lit.wf, IntKind.min, IntKind.max, IntKind.signed, IntKind.bits] using h
/-- one of a company -/
theorem coL_elem {g x : Int} {l : List Dd} {k : Nat} (h : k < (coL g l x).length) : meetB g l = true ∧ (1 ≤ x ∧ x ≤ g) ∧ ∃ c : Nat, (coL g l x)[k] = (c : Int) ∧ c ∈ co g.toNat (onEnd on0 l) x.toNat := by
 cases hm : meetB g l
 ·rw [coL_no (.inl hm)] at h; simp at h
 ·by_cases hx : 1 ≤ x ∧ x ≤ g
  ·refine ⟨rfl, hx, ?_⟩
   have e := coL_yes (l := l) hm hx
   have h1 : (coL g l x)[k]? = some ((coL g l x)[k]) := List.getElem?_eq_getElem h
   obtain ⟨y, hy⟩ : ∃ y, y = (coL g l x)[k] := ⟨_, rfl⟩
   rw [← hy] at h1 ⊢
   rw [e, List.getElem?_map] at h1
   obtain ⟨c, h2, h3⟩ := Option.map_eq_some_iff.1 h1
   exact ⟨c, h3.symm, List.mem_of_getElem? h2⟩
  ·rw [coL_no (.inr hx)] at h; simp at h
theorem coL_facts {g x : Int} {l : List Dd} {k : Nat} (h : k < (coL g l x).length) : (coL g l ((coL g l x)[k])).any (· == x) = true ∧ (coL g l ((coL g l x)[k])).length = (coL g l x).length ∧ (coL g l x)[k] ≠ x ∧ (∀ h0 : 0 < k, (coL g l x)[k - 1]'(by omega) < (coL g l x)[k]) := by
 obtain ⟨hm, hx, c, hc, hmem⟩ := coL_elem h
 have hg := meetB_true hm
 have m1 := co_mem.1 hmem
 have hc1 : 1 ≤ ((coL g l x)[k]) ∧ ((coL g l x)[k]) ≤ g := by rw [hc]; omega
 have e1 := coL_yes (l := l) hm hx
 have e2 := coL_yes (l := l) hm hc1
 have hcn : ((coL g l x)[k]).toNat = c := by rw [hc]; omega
 rw [hcn] at e2
 refine ⟨?_, ?_, ?_, fun h0 => ?_⟩
 ·rw [e2, List.any_map, List.any_eq_true]
  refine ⟨x.toNat, co_sym (by omega) (by omega) hmem, ?_⟩
  simp only [Function.comp, beq_iff_eq]
  omega
 ·rw [e2, e1, List.length_map, List.length_map]
  exact co_same (by omega) (by omega) hmem
 ·rw [hc]
  have := m1.2.1
  omega
 ·have hs := co_sorted g.toNat (onEnd on0 l) x.toNat
  have hk : k < (co g.toNat (onEnd on0 l) x.toNat).length := by rw [e1, List.length_map] at h; exact h
  have h5 := List.pairwise_iff_getElem.1 hs (k - 1) k (by omega) hk (by omega)
  have h6 : (coL g l x)[k] = (((co g.toNat (onEnd on0 l) x.toNat)[k] : Nat) : Int) := by simp only [e1, List.getElem_map]
  have h7 : (coL g l x)[k - 1]'(by omega) = (((co g.toNat (onEnd on0 l) x.toNat)[k - 1]'(by omega) : Nat) : Int) := by simp only [e1, List.getElem_map]
  rw [h6, h7]
  omega
theorem arr92 {T : Array Value} (h : T.size = 92) : ∃ x0 x1 x2 x3 x4 x5 x6 x7 x8 x9 x10 x11 x12 x13 x14 x15 x16 x17 x18 x19 x20 x21 x22 x23 x24 x25 x26 x27 x28 x29 x30 x31 x32 x33 x34 x35 x36 x37 x38 x39 x40 x41 x42 x43 x44 x45 x46 x47 x48 x49 x50 x51 x52 x53 x54 x55 x56 x57 x58 x59 x60 x61 x62 x63 x64 x65 x66 x67 x68 x69 x70 x71 x72 x73 x74 x75 x76 x77 x78 x79 x80 x81 x82 x83 x84 x85 x86 x87 x88 x89 x90 x91, T = #[x0, x1, x2, x3, x4, x5, x6, x7, x8, x9, x10, x11, x12, x13, x14, x15, x16, x17, x18, x19, x20, x21, x22, x23, x24, x25, x26, x27, x28, x29, x30, x31, x32, x33, x34, x35, x36, x37, x38, x39, x40, x41, x42, x43, x44, x45, x46, x47, x48, x49, x50, x51, x52, x53, x54, x55, x56, x57, x58, x59, x60, x61, x62, x63, x64, x65, x66, x67, x68, x69, x70, x71, x72, x73, x74, x75, x76, x77, x78, x79, x80, x81, x82, x83, x84, x85, x86, x87, x88, x89, x90, x91] :=
 ⟨T.getD 0 undef, T.getD 1 undef, T.getD 2 undef, T.getD 3 undef, T.getD 4 undef, T.getD 5 undef, T.getD 6 undef, T.getD 7 undef, T.getD 8 undef, T.getD 9 undef, T.getD 10 undef, T.getD 11 undef, T.getD 12 undef, T.getD 13 undef, T.getD 14 undef, T.getD 15 undef, T.getD 16 undef, T.getD 17 undef, T.getD 18 undef, T.getD 19 undef, T.getD 20 undef, T.getD 21 undef, T.getD 22 undef, T.getD 23 undef, T.getD 24 undef, T.getD 25 undef, T.getD 26 undef, T.getD 27 undef, T.getD 28 undef, T.getD 29 undef, T.getD 30 undef, T.getD 31 undef, T.getD 32 undef, T.getD 33 undef, T.getD 34 undef, T.getD 35 undef, T.getD 36 undef, T.getD 37 undef, T.getD 38 undef, T.getD 39 undef, T.getD 40 undef, T.getD 41 undef, T.getD 42 undef, T.getD 43 undef, T.getD 44 undef, T.getD 45 undef, T.getD 46 undef, T.getD 47 undef, T.getD 48 undef, T.getD 49 undef, T.getD 50 undef, T.getD 51 undef, T.getD 52 undef, T.getD 53 undef, T.getD 54 undef, T.getD 55 undef, T.getD 56 undef, T.getD 57 undef, T.getD 58 undef, T.getD 59 undef, T.getD 60 undef, T.getD 61 undef, T.getD 62 undef, T.getD 63 undef, T.getD 64 undef, T.getD 65 undef, T.getD 66 undef, T.getD 67 undef, T.getD 68 undef, T.getD 69 undef, T.getD 70 undef, T.getD 71 undef, T.getD 72 undef, T.getD 73 undef, T.getD 74 undef, T.getD 75 undef, T.getD 76 undef, T.getD 77 undef, T.getD 78 undef, T.getD 79 undef, T.getD 80 undef, T.getD 81 undef, T.getD 82 undef, T.getD 83 undef, T.getD 84 undef, T.getD 85 undef, T.getD 86 undef, T.getD 87 undef, T.getD 88 undef, T.getD 89 undef, T.getD 90 undef, T.getD 91 undef, (arr_of T 92 h).trans rfl⟩
noncomputable def body4 : Code := Try.f4.body.getD .skip
noncomputable def S4 : Code := match body4 with | .seq _ (.seq _ (.seq _ (.seq _ (.seq _ c)))) => c | _ => .skip
noncomputable def LC : Code := match S4 with | .seq (.seq _ (.block _ (.loop c))) _ => c | _ => .skip
noncomputable def EC : Code := match S4 with | .seq _ c => c | _ => .skip
/-- the slots at the loop's head -/
structure HdC (g : Int) (A : Option Addr) (n c : Nat) (x : Int) (Ac : Option Addr) (m cc k : Nat) (T : Array Value) : Prop where
 size : T.size = 92
 t3 : T.getD 3 undef = .int .i64 g
 t4 : T.getD 4 undef = .slice A n c
 t5 : T.getD 5 undef = .int .i64 x
 t6 : T.getD 6 undef = .slice Ac m cc
 t7 : T.getD 7 undef = .int .i64 k
set_option maxRecDepth 100000 in
set_option maxHeartbeats 16000000 in
theorem company_loop {g x : Int} {ls : List Dd} {A : Option Addr} {c : Nat} {Ac : Option Addr} {cc : Nat} {L : List Int} (hL : L = coL g ls x) (hls : ls.length ≤ 13) :
  ∀ m k, k + m = L.length → ∀ (T : Array Value) (v : World), Flat Try.prog v → RD v v.heap.size A ls → RI v v.heap.size Ac L → HdC g A ls.length c x Ac L.length cc k T →
   KA KL (G ((Conc.base 4).at ⟨T, []⟩ [.code LC, .inLoop LC, .inBlock 0, .code EC]) []) v := by
 have hK := kl_ok
 intro m
 induction m with
 | zero =>
  intro k hk T v hF hRD hRI hT
  obtain ⟨hz, t3, t4, t5, t6, t7⟩ := hT
  obtain ⟨x0, x1, x2, x3, x4, x5, x6, x7, x8, x9, x10, x11, x12, x13, x14, x15, x16, x17, x18, x19, x20, x21, x22, x23, x24, x25, x26, x27, x28, x29, x30, x31, x32, x33, x34, x35, x36, x37, x38, x39, x40, x41, x42, x43, x44, x45, x46, x47, x48, x49, x50, x51, x52, x53, x54, x55, x56, x57, x58, x59, x60, x61, x62, x63, x64, x65, x66, x67, x68, x69, x70, x71, x72, x73, x74, x75, x76, x77, x78, x79, x80, x81, x82, x83, x84, x85, x86, x87, x88, x89, x90, x91, rfl⟩ := arr92 hz
  obtain rfl : x6 = .slice Ac L.length cc := t6
  obtain rfl : x7 = .int .i64 k := t7
  have hlt : ¬ (k : Int) < (L.length : Int) := by omega
  clear hz t3 t4 t5 hRD hRI hL
  simp only [LC, EC, S4, body4, Try.f4, Option.getD_some]
  refine kSeq hK hF (kSeq hK hF (kRegion hK hF ?_))
  refine kOp closedS.bodies hK hF (val := .int .i64 k) (by k_ne) rfl rfl (by kernel_rfl) (fun v₁ hv => by go_simp <;> rfl) ?_
  walk_nrm
  refine kOp closedS.bodies hK hF (val := .slice Ac L.length cc) (by k_ne) rfl rfl (by kernel_rfl) (fun v₁ hv => by go_simp <;> rfl) ?_
  walk_nrm
  refine kOp closedS.bodies hK hF (val := .int .i64 L.length) (by k_ne) rfl rfl (by kernel_rfl) (fun v₁ hv => by go_simp <;> rfl) ?_
  walk_nrm
  refine kOp closedS.bodies hK hF (val := .bool false) (by k_ne) rfl rfl (by kernel_rfl) (fun v₁ hv => by go_simp <;> first | rfl | simp [hlt]) ?_
  walk_nrm
  refine kRegEnd hK hF (kCond hK hF (t := false) (by rfl) ?_)
  simp only [Bool.false_eq_true, if_false]
  refine kExit hK hF (k' := _) (by rfl) ?_
  refine kLift closedS hK hF (by kernel_rfl) (by k_ne) fun t => ?_
  generalize hQ : Behind _ _ _ _ _ = Q
  go_wp2
  subst hQ
  refine fun todo _ _ => KA.re ?_
  exact law_ret rfl rfl Try.func4 rfl (by kernel_rfl) rfl
 | succ m ih =>
  intro k hk T v hF hRD hRI hT
  have hkl : k < L.length := by omega
  obtain ⟨q1, q2, q3, q4⟩ := coL_facts (g := g) (x := x) (l := ls) (k := k) (by rw [← hL]; exact hkl)
  have ih' := fun T' v' hF' hR' hI' hT' => ih (k + 1) (by omega) T' v' hF' hR' hI' hT'
  have Hih := Lib.hid ih'
  clear ih ih'
  obtain ⟨hz, t3, t4, t5, t6, t7⟩ := hT
  obtain ⟨x0, x1, x2, x3, x4, x5, x6, x7, x8, x9, x10, x11, x12, x13, x14, x15, x16, x17, x18, x19, x20, x21, x22, x23, x24, x25, x26, x27, x28, x29, x30, x31, x32, x33, x34, x35, x36, x37, x38, x39, x40, x41, x42, x43, x44, x45, x46, x47, x48, x49, x50, x51, x52, x53, x54, x55, x56, x57, x58, x59, x60, x61, x62, x63, x64, x65, x66, x67, x68, x69, x70, x71, x72, x73, x74, x75, x76, x77, x78, x79, x80, x81, x82, x83, x84, x85, x86, x87, x88, x89, x90, x91, rfl⟩ := arr92 hz
  obtain rfl : x3 = .int .i64 g := t3
  obtain rfl : x4 = .slice A ls.length c := t4
  obtain rfl : x5 = .int .i64 x := t5
  obtain rfl : x6 = .slice Ac L.length cc := t6
  obtain rfl : x7 = .int .i64 k := t7
  have hlt : (k : Int) < (L.length : Int) := by omega
  obtain ⟨ad, rfl, hb, hc⟩ := hRI.at_ hkl
  have hk4 : ∀ h0 : 0 < k, L[k - 1]'(by omega) < L[k] := fun h0 => by subst hL; exact q4 h0
  have hq3 : L[k] ≠ x := by subst hL; exact q3
  have hq2 : (coL g ls L[k]).length = L.length := by subst hL; exact q2
  have hq1 : (coL g ls L[k]).any (· == x) = true := by subst hL; exact q1
  have hcp : 0 < k → v.cell? (ad.add (k - 1)) = some (.int .i64 (if h : 0 < k then L[k - 1]'(by omega) else 0)) := fun h0 => by
   obtain ⟨ad', e, _, h1⟩ := hRI.at_ (k := k - 1) (by omega)
   obtain rfl : ad = ad' := by injection e
   rw [dif_pos h0]; exact h1
  obtain ⟨cp, hcpe⟩ : ∃ cp, cp = (if h : 0 < k then L[k - 1]'(by omega) else 0) := ⟨_, rfl⟩
  rw [← hcpe] at hcp
  obtain ⟨ck, hck⟩ : ∃ ck, ck = L[k] := ⟨_, rfl⟩
  have hlt4 : 0 < k → cp < ck := fun h0 => by rw [hcpe, dif_pos h0, hck]; exact hk4 h0
  rw [← hck] at hc hq3 hq2 hq1
  have hL5 : L.length ≤ 1048576 := by rw [hL]; exact coL_len _ _ _
  have HL := Lib.hid hL
  clear hz hL q1 q2 q3 q4 hk4 hcpe hck hk
  unfold LC EC S4 body4 at Hih ⊢
  simp only [Try.f4, Option.getD_some] at Hih ⊢
  refine kSeq hK hF (kSeq hK hF (kRegion hK hF ?_))
  refine kOp closedS.bodies hK hF (val := .int .i64 k) (by k_ne) rfl rfl (by kernel_rfl) (fun v₁ hv => by go_simp <;> rfl) ?_
  walk_nrm
  refine kOp closedS.bodies hK hF (val := .slice (some ad) L.length cc) (by k_ne) rfl rfl (by kernel_rfl) (fun v₁ hv => by go_simp <;> rfl) ?_
  walk_nrm
  refine kOp closedS.bodies hK hF (val := .int .i64 L.length) (by k_ne) rfl rfl (by kernel_rfl) (fun v₁ hv => by go_simp <;> rfl) ?_
  walk_nrm
  refine kOp closedS.bodies hK hF (val := .bool true) (by k_ne) rfl rfl (by kernel_rfl) (fun v₁ hv => by go_simp <;> first | rfl | simp [hlt]) ?_
  walk_nrm
  refine kRegEnd hK hF (kCond hK hF (t := true) (by rfl) ?_)
  simp only [if_true]
  refine kSkip hK hF (kSeq hK hF (kBlock hK hF (kSeq hK hF (kRegion hK hF ?_))))
  refine kOp closedS.bodies hK hF (val := .int .i64 g) (by k_ne) rfl rfl (by kernel_rfl) (fun v₁ hv => by go_simp <;> rfl) ?_
  walk_nrm
  refine kOp closedS.bodies hK hF (val := .slice A ls.length c) (by k_ne) rfl rfl (by kernel_rfl) (fun v₁ hv => by go_simp <;> rfl) ?_
  walk_nrm
  refine kOp closedS.bodies hK hF (val := .slice (some ad) L.length cc) (by k_ne) rfl rfl (by kernel_rfl) (fun v₁ hv => by go_simp <;> rfl) ?_
  walk_nrm
  refine kOp closedS.bodies hK hF (val := .int .i64 k) (by k_ne) rfl rfl (by kernel_rfl) (fun v₁ hv => by go_simp <;> rfl) ?_
  walk_nrm
  refine kOp closedS.bodies hK hF (val := .pointer (some (ad.add k))) (by k_ne) rfl rfl (by kernel_rfl) (fun v₁ hv => by go_simp <;> rfl) ?_
  walk_nrm
  refine kOp closedS.bodies hK hF (val := .int .i64 ck) (by k_ne) rfl rfl (by kernel_rfl) (fun v₁ hv => by have := cell_up hv hc; go_simp <;> rfl) ?_
  walk_nrm
  refine company_call rfl rfl (by k_ne) rfl rfl rfl rfl hF hRD (by omega) (fun w2 u hF2 e2 hG => ?_)
  obtain ⟨L2, hL2⟩ : ∃ L2, L2 = coL g ls ck := ⟨_, rfl⟩
  rw [← hL2] at hG hq1 hq2
  obtain ⟨Ag, cg, rfl⟩ := own_form hG
  have hRI2 : RI w2 w2.heap.size (some ad) L := (hRI.ups (Nat.le_refl _) e2).more e2.size
  have hRD2 := hRD.ups e2
  have hc2 : w2.cell? (ad.add k) = some (.int .i64 ck) := e2.cell hc
  have hcp2 : 0 < k → w2.cell? (ad.add (k - 1)) = some (.int .i64 cp) := fun h0 => e2.cell (hcp h0)
  have hR2 : RI w2 w2.heap.size Ag L2 := RI.of_own hG
  clear hRI hRD hc hcp hF hL2 hG hb
  walk_nrm
  refine kOp closedS.bodies hK hF2 (val := .slice Ag L2.length cg) (by k_ne) rfl rfl (by kernel_rfl) (fun v₁ hv => by go_simp <;> rfl) ?_
  walk_nrm
  refine kRegEnd hK hF2 (kLift closedS hK hF2 (by kernel_rfl) (by k_ne) fun t => ?_)
  generalize hQ : Behind _ _ _ _ _ = Q
  have hR3 : RI (w2.re t 0) w2.heap.size Ag L2 := hR2
  have hc3 : (w2.re t 0).cell? (ad.add k) = some (.int .i64 ck) := hc2
  have hcp3 : 0 < k → (w2.re t 0).cell? (ad.add (k - 1)) = some (.int .i64 cp) := hcp2
  have HR := Lib.hid (And.intro hRI2 hRD2)
  obtain ⟨wv, hwv⟩ : ∃ wv, wv = w2.re t 0 := ⟨_, rfl⟩
  rw [← hwv] at hR3 hc3 hcp3 ⊢
  have HW := Lib.hid hwv
  clear hR2 hc2 hcp2 hRI2 hRD2 hwv
  go_wp2
  go_loopw [10, 9] (fun iv sv wr => ∃ i : Nat, i ≤ L2.length ∧ iv = .int .i64 i ∧ sv = .bool ((L2.take i).any (· == x)) ∧ wr = wv) (fun iv _ _ => L2.length - (intOf iv).toNat)
  case atStart => exact ⟨0, Nat.zero_le _, rfl, by simp, rfl⟩
  case round =>
   obtain ⟨i, hi1, rfl, rfl, rfl⟩ := hrel
   by_cases hlt2 : i < L2.length
   ·obtain ⟨ad2, rfl, _, hc4⟩ := hR3.at_ hlt2
    have hs : (L2.take (i + 1)).any (· == x) = ((L2.take i).any (· == x) || (L2[i] == x)) := by rw [List.take_succ_eq_append_getElem hlt2, List.any_append]; simp
    have Hs := Lib.hid hs
    obtain ⟨y, hy⟩ : ∃ y, y = L2[i] := ⟨_, rfl⟩
    rw [← hy] at hc4 Hs
    have hi5 : i ≤ 1048576 := by omega
    clear hs hy hcp3 hlt4
    cases hb2 : (L2.take i).any (· == x)
    ·rw [hb2] at Hs
     clear hb2
     go_wp2
     go_roundw
     case rel => exact ⟨i + 1, by omega, by go_num, by rw [Hs.out]; simp, trivial⟩
     case measure => simp [intOf]; omega
    ·rw [hb2] at Hs
     clear hb2
     go_wp2
     go_roundw
     case rel => exact ⟨i + 1, by omega, by go_num, by rw [Hs.out]; simp, trivial⟩
     case measure => simp [intOf]; omega
   ·obtain rfl : i = L2.length := by omega
    rw [List.take_length, hq1]
    have hle : ((L2.length : Int) != (L.length : Int)) = false := by simp; omega
    have hxe : (ck == x) = false := by simp; exact hq3
    have Hq2 := Lib.hid hq2
    clear hR3 hq1 hq2
    by_cases h0 : 0 < k
    ·have h0i : (0 : Int) < (k : Int) := by omega
     have h0d : decide (0 < k) = true := by simp; exact h0
     have hl4 := hlt4 h0
     have hc5 := hcp3 h0
     have hll : ¬ ck ≤ cp := by omega
     have hld : decide (ck ≤ cp) = false := by simp; omega
     have hk1 : ((k : Int) - 1).toNat = k - 1 := by omega
     have hk2 : (k : Int) - 1 < (L.length : Int) := by omega
     have hk3 : (0 : Int) ≤ (k : Int) - 1 := by omega
     clear hcp3 hlt4
     go_wp2
     go_quiet (fail)
     go_wp2
     subst hQ
     refine fun hF3 _ => ?_
     rw [HW.out]
     rw [HW.out] at hF3
     refine kInBlock hK hF3 (kRegion hK hF3 ?_)
     refine kOp closedS.bodies hK hF3 (val := .int .i64 k) (by k_ne) rfl rfl (by kernel_rfl) (fun v₁ hv => by go_simp <;> rfl) ?_
     walk_nrm
     refine kOp closedS.bodies hK hF3 (val := .int .i64 ((k + 1 : Nat) : Int)) (by k_ne) rfl rfl (by kernel_rfl) (fun v₁ hv => by have : IntKind.i64.wrap ((k : Int) + 1) = ((k + 1 : Nat) : Int) := (by rw [IntKind.wrap_i64]; omega); go_simp; try simp [this]) ?_
     walk_nrm
     refine kOp closedS.bodies hK hF3 (val := .int .i64 ((k + 1 : Nat) : Int)) (by k_ne) rfl rfl (by kernel_rfl) (fun v₁ hv => by go_simp <;> rfl) ?_
     walk_nrm
     refine kRegEnd hK hF3 (kInLoop hK hF3 ?_)
     exact Hih.out _ _ hF3 HR.out.2 HR.out.1 ⟨rfl, rfl, rfl, rfl, rfl, rfl⟩
    ·have h0i : ¬ (0 : Int) < (k : Int) := by omega
     have h0d : decide (0 < k) = false := by simp; omega
     clear hcp3 hlt4
     go_wp2
     go_quiet (fail)
     go_wp2
     subst hQ
     refine fun hF3 _ => ?_
     rw [HW.out]
     rw [HW.out] at hF3
     refine kInBlock hK hF3 (kRegion hK hF3 ?_)
     refine kOp closedS.bodies hK hF3 (val := .int .i64 k) (by k_ne) rfl rfl (by kernel_rfl) (fun v₁ hv => by go_simp <;> rfl) ?_
     walk_nrm
     refine kOp closedS.bodies hK hF3 (val := .int .i64 ((k + 1 : Nat) : Int)) (by k_ne) rfl rfl (by kernel_rfl) (fun v₁ hv => by have : IntKind.i64.wrap ((k : Int) + 1) = ((k + 1 : Nat) : Int) := (by rw [IntKind.wrap_i64]; omega); go_simp; try simp [this]) ?_
     walk_nrm
     refine kOp closedS.bodies hK hF3 (val := .int .i64 ((k + 1 : Nat) : Int)) (by k_ne) rfl rfl (by kernel_rfl) (fun v₁ hv => by go_simp <;> rfl) ?_
     walk_nrm
     refine kRegEnd hK hF3 (kInLoop hK hF3 ?_)
     exact Hih.out _ _ hF3 HR.out.2 HR.out.1 ⟨rfl, rfl, rfl, rfl, rfl, rfl⟩
set_option maxRecDepth 100000 in
set_option maxHeartbeats 16000000 in
theorem FnCompany_wins (A0 : Option Addr) (l0 : List Int) (c0 : Nat) (W : World) (h0 : Reads W W.heap.size 1 A0 l0.length (l0.map (Value.int .u8))) (hc0 : l0.length ≤ c0) (hm0 : c0 ≤ maxLen) (hw0 : ∀ x ∈ l0, (Lit.int .u8 x).wf = true) :
  KA KL (G (Frame.enter Try.prog 4 #[.slice A0 l0.length c0] .normal) []) W.shutAll := by
 have hF := (shutAll_veil noGlobals W).flat
 have hRB : RB W.shutAll W.shutAll.heap.size A0 l0 := ⟨shutAll_reads h0, fun x hx => wf_u8 (hw0 x hx)⟩
 generalize W.shutAll = v at hF hRB ⊢
 have HM := Lib.hid hm0
 clear h0 hw0 hm0
 have hK := kl_ok
 rw [enter_at _ Try.func4 rfl]
 walk_nrmf Try.f4
 refine kSeq hK hF (kLift closedS hK hF (by kernel_rfl) (by k_ne) fun t => ?_)
 generalize hQ : Behind _ _ _ _ _ = Q
 go_wp2
 subst hQ
 refine fun _ _ => KA.re ?_
 by_cases hn0 : l0.length ≤ 1048576
 case neg =>
  have h' : 1048576 < l0.length := by omega
  clear hRB hn0
  refine kSeq hK hF (kLift closedS hK hF (by kernel_rfl) (by k_ne) fun t => ?_)
  generalize hQ : Behind _ _ _ _ _ = Q
  go_wp2
  subst hQ
  refine fun todo _ _ => KA.re ?_
  exact law_ret rfl rfl Try.func4 rfl (by kernel_rfl) rfl
 refine kSeq hK hF (kLift closedS hK hF (by kernel_rfl) (by k_ne) fun t => ?_)
 generalize hQ : Behind _ _ _ _ _ = Q
 go_wp2
 subst hQ
 refine fun _ _ => KA.re ?_
 refine kSeq hK hF (kLift closedS hK hF (by kernel_rfl) (by k_ne) fun t => ?_)
 generalize hQ : Behind _ _ _ _ _ = Q
 have hRt : RB (v.re t 0) (v.re t 0).heap.size A0 l0 := hRB.keep fun _ _ => rfl
 go_wp2_with fail
 refine (DrawCompanyOf_any A0 c0 l0 _ hRt hc0 HM.out hn0).mono ?_
 rintro e w1 ⟨g, ls, A, c, x, rfl, h13, hRD, hb⟩
 go_wp2_with fail
 subst hQ
 refine fun hF1 _ => ?_
 clear hb hRt hRB hn0 hc0
 have hlen : (coL g ls x).length ≤ 1048576 := coL_len _ _ _
 obtain ⟨L, hL⟩ : ∃ L, L = coL g ls x := ⟨_, rfl⟩
 have HL := Lib.hid hL
 rw [← hL] at hlen
 have hll : (L == L) = true := by simp
 clear hL
 refine kSeq hK hF1 (kRegion hK hF1 ?_)
 refine kOp closedS.bodies hK hF1 (val := .int .i64 g) (by k_ne) rfl rfl (by kernel_rfl) (fun v₁ hv => by go_simp <;> rfl) ?_
 walk_nrm
 refine kOp closedS.bodies hK hF1 (val := .slice A ls.length c) (by k_ne) rfl rfl (by kernel_rfl) (fun v₁ hv => by go_simp <;> rfl) ?_
 walk_nrm
 refine kOp closedS.bodies hK hF1 (val := .int .i64 x) (by k_ne) rfl rfl (by kernel_rfl) (fun v₁ hv => by go_simp <;> rfl) ?_
 walk_nrm
 refine company_call rfl rfl (by k_ne) rfl rfl rfl rfl hF1 hRD (by omega) (fun w2 u hF2 e2 hG => ?_)
 rw [← HL.out] at hG
 obtain ⟨Ag, cg, rfl⟩ := own_form hG
 have hRD2 := hRD.ups e2
 walk_nrm
 refine kOp closedS.bodies hK hF2 (val := .slice Ag L.length cg) (by k_ne) rfl rfl (by kernel_rfl) (fun v₁ hv => by go_simp <;> rfl) ?_
 walk_nrm
 refine kRegEnd hK hF2 (kSeq hK hF2 (kLift closedS hK hF2 (by kernel_rfl) (by k_ne) fun t => ?_))
 generalize hQ : Behind _ _ _ _ _ = Q
 have hRD3 : RD (w2.re t 0) (w2.re t 0).heap.size A ls := hRD2
 have hG3 : RI (w2.re t 0) (w2.re t 0).heap.size Ag L := RI.of_own hG
 go_wp2_with fail
 refine (sCompanyOf_any A c g x ls _ hRD3 (by omega)).mono ?_
 rintro e w3 ⟨As, cs3, rfl, hS, hb3⟩
 rw [← HL.out] at hS ⊢
 have hG4 : RI w3 (w2.re t 0).heap.size Ag L := hG3.below hb3
 have hS4 : RI w3 w3.heap.size As L := RI.of_own hS
 go_wp2_with fail
 refine (cbSame_same Ag As cg cs3 L w3 _ _ hG4 hS4 hlen).mono ?_
 rintro e w4 ⟨rfl, n4, rfl⟩
 go_wp2_with fail
 subst hQ
 refine fun hF4 _ => ?_
 have e3 : Ups w2 (w3.drewN n4) := ⟨hb3.size, hb3.block⟩
 have hRD4 := hRD2.ups e3
 have hRI4 : RI (w3.drewN n4) (w3.drewN n4).heap.size Ag L := ((RI.of_own hG).ups (Nat.le_refl _) e3).more e3.size
 clear hRD3 hG3 hS hS4 hG4 hb3 hG hRD2 hRD hF hF1 hF2
 refine kSeq hK hF4 (kSeq hK hF4 (kRegion hK hF4 ?_))
 refine kOp closedS.bodies hK hF4 (val := .int .i64 0) (by k_ne) rfl rfl (by kernel_rfl) (fun v₁ hv => by go_simp <;> rfl) ?_
 walk_nrm
 refine kRegEnd hK hF4 (kBlock hK hF4 (kLoop hK hF4 ?_))
 exact company_loop (g := g) (x := x) (ls := ls) (A := A) (c := c) (Ac := Ag) (cc := cg) HL.out h13 L.length 0 (by omega) _ _ hF4 hRD4 hRI4 ⟨rfl, rfl, rfl, rfl, rfl, rfl⟩
end Go.Proofs.Ythmgpkcijolljaa
