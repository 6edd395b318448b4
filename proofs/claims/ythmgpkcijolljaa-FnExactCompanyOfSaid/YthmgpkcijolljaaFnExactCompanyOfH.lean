/-
  The law FnExactCompanyOf returns true for every input, and each argument reads afterwards as before. No condition.
-/
import Derived.Test.YthmgpkcijolljaaRows
import Derived.Test.YthmgpkcijolljaaH24
import Derived.Test.YthmgpkcijolljaaHKClosedA
import Derived.Test.YthmgpkcijolljaaHKClosedB
import Derived.Test.YthmgpkcijolljaaHKLawF4
namespace Go.Proofs.Ythmgpkcijolljaa.fnExactCompanyOf
open Go.ChangeShapes Go.WideShapes Go.ChangeAt Go.RowKit
open Go.ChangeMaps (open_string shut_string)
set_option linter.unusedVariables false
set_option maxRecDepth 100000 in
theorem lifted (os : Os) (started : os.Started) (H : Type) (enc : TypeId × Value → H) :
  ReturnsInLeavingWide {} Try.checked os 9 .any (Rows.fnExactCompanyOfSpec.pre6 enc Try.prog Try.f9 Rows.fnExactCompanyOfRow.domain false) (Rows.fnExactCompanyOfSpec.post enc Try.prog Try.f9 false true false false) := by
 refine returnsInLeavingWide_of_change_sized (C := Try.checked) own started Try.func9
  (ChangeSpec.witness6 (enc := enc) (C := Try.checked) false ⟨#[], #[.int .i64 0, .slice none 0 0, .int .i64 0], []⟩ 8 (by kernel_rfl) (by kernel_rfl) (by kernel_rfl) (by kernel_rfl)) ?_
 intro W base args ds gs before hval0 hW hcnd _ _
 have hval : ∀ (j : Nat) t v, Try.f9.params[j]? = some t → args[j]? = some v → Value.okWide Try.prog W .any base t v := hval0
 have hW' := hW
 obtain ⟨p, q, hA0, hV, rfl, hfz, hnd⟩ := hW
 have hA : DataW.TrodAll enc Try.prog W 0 (fun _ => true) true Try.f9.params.toList args.toList ds p := hA0
 rw [Try.params9] at hA hval
 obtain ⟨v0, vs0, d0, ds0, p0, q0, hargs, rfl, rfl, h0, r0⟩ := trodAll_cons hA
 obtain ⟨v1, vs1, d1, ds1, p1, q1, rfl, rfl, rfl, h1, r1⟩ := trodAll_cons r0
 obtain ⟨v2, vs2, d2, ds2, p2, q2, rfl, rfl, rfl, h2, r2⟩ := trodAll_cons r1
 obtain ⟨rfl, rfl, rfl⟩ := trodAll_nil r2
 obtain rfl : args = #[v0, v1, v2] := by cases args; simp_all
 obtain ⟨rfl, rfl⟩ := trodVars_none hV
 have k0 := h0
 have lt0 : ∀ x ∈ p0, x.block < W.heap.size := by obtain ⟨m, hm⟩ := k0; exact DataW.trod_lt m _ _ _ hm
 have k1 := h1
 have lt1 : ∀ x ∈ p1, x.block < W.heap.size := by obtain ⟨m, hm⟩ := k1; exact DataW.trod_lt m _ _ _ hm
 have k2 := h2
 have lt2 : ∀ x ∈ p2, x.block < W.heap.size := by obtain ⟨m, hm⟩ := k2; exact DataW.trod_lt m _ _ _ hm
 obtain ⟨x0, rfl, _, _, wx0⟩ := open_int Try.underlying3 (hval 0 3 v0 rfl rfl) h0
 obtain ⟨A1, l1, c1, rfl, hc1, hm1, hr1, hw1⟩ := open_siis Try.underlying22 Try.underlying50 (by kernel_rfl) (by kernel_rfl) Try.underlying9 Try.underlying3 Try.underlying3 (hval 1 22 v1 rfl rfl) h1
 obtain ⟨x2, rfl, _, _, wx2⟩ := open_int Try.underlying3 (hval 2 3 v2 rfl rfl) h2
 clear hA0 hval0
 obtain ⟨M, last, o, w', t', h1, h2, h3, h4⟩ := good_of_wins noGlobals (FnExactCompanyOf_wins x0 A1 l1 c1 x2 W wx0 hr1 hc1 hm1 hw1 wx2)
 refine ⟨M, last, o, w', t', h1, h2, h3, h4.mono fun x hx => ?_⟩
 obtain ⟨rfl, hos, hout, bel⟩ := hx
 have hs := (trodAll_cons_mk (Below.trod laidOut (by kernel_rfl) (of_decide_eq_true (by kernel_rfl)) k0 bel lt0) (trodAll_cons_mk (Below.trod laidOut (by kernel_rfl) (of_decide_eq_true (by kernel_rfl)) k1 bel lt1) (trodAll_cons_mk (Below.trod laidOut (by kernel_rfl) (of_decide_eq_true (by kernel_rfl)) k2 bel lt2) trodAll_mk0)))
 have hs' := DataW.TrodAll.of_heap (w := w'.re W.tape W.drawn) (w' := w') rfl hs
 refine ⟨_, _, _, [], _, [], hW', trodAll_mk1 (shut_bool Try.underlying4 _), hs', rfl, ?_, fun h => by cases h⟩
 exact kept_re hos hout (bel.frame _)
theorem and_t {a b : Bool} (h : a = true) (k : b = true) : (a && b) = true := by rw [h, k]; rfl
theorem closed : joinedFacts Try.pinned.checked.prog 9 Try.f9 Rows.fnExactCompanyOfSpec Rows.fnExactCompanyOfRow = true := by
 unfold joinedFacts
 repeat' (with_reducible refine and_t ?_ ?_)
 all_goals first
  | with_reducible exact c_mayEnter
  | ((with_reducible refine c_make _ ?_); rfl)
  | with_reducible exact c_laid
  | with_reducible exact c_rowed
  | with_reducible exact c_heard
  | as_aux_lemma => kernel_rfl
theorem over : Rows.fnExactCompanyOfRow.holds Try.pinned (OpenSpec.ofChange Rows.fnExactCompanyOfSpec) :=
 OpenClaim.holds_of_wide_leaving 9 Try.f9 rfl rfl rfl rfl rfl rfl rfl ⟨rfl, rfl, rfl, rfl, rfl⟩ rfl rfl rfl rfl rfl (by as_aux_lemma => kernel_rfl) Try.func9 closed
  (of_decide_eq_true (by as_aux_lemma => kernel_rfl)) (by unfold Func.isWrapper; first | (rw [if_pos (by decide +kernel)]; as_aux_lemma => kernel_rfl) | (rw [if_neg (by decide +kernel)]; exact ⟨rfl, rfl⟩))
  (fun os started H enc _ => lifted os started H enc)
theorem proved : Rows.FnExactCompanyOfSaid := over
#print axioms proved
end Go.Proofs.Ythmgpkcijolljaa.fnExactCompanyOf
