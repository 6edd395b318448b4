/-
  The law FnHeardBy returns true for every input, and each argument reads afterwards as before. No condition.
-/
import Derived.Test.YthmgpkcijolljaaRows
import Derived.Test.YthmgpkcijolljaaK8
import Derived.Test.YthmgpkcijolljaaHKClosedA
import Derived.Test.YthmgpkcijolljaaKS
import Derived.Test.YthmgpkcijolljaaHKClosedB
import Derived.Test.YthmgpkcijolljaaKKLawF7
namespace Go.Proofs.Ythmgpkcijolljaa.fnHeardBy
open Go.ChangeShapes Go.WideShapes Go.ChangeAt Go.RowKit
open Go.ChangeMaps (open_string shut_string)
set_option linter.unusedVariables false
set_option maxRecDepth 100000 in
theorem lifted (os : Os) (started : os.Started) (H : Type) (enc : TypeId × Value → H) :
  ReturnsInLeavingWide {} Try.checked os 8 .any (Rows.fnHeardBySpec.pre6 enc Try.prog Try.f8 Rows.fnHeardByRow.domain false) (Rows.fnHeardBySpec.post enc Try.prog Try.f8 false true false false) := by
 refine returnsInLeavingWide_of_change_sized (C := Try.checked) own started Try.func8
  (ChangeSpec.witness6 (enc := enc) (C := Try.checked) false ⟨#[], #[.slice none 0 0], []⟩ 8 (by kernel_rfl) (by kernel_rfl) (by kernel_rfl) (by kernel_rfl)) ?_
 intro W base args ds gs before hval0 hW hcnd _ _
 have hval : ∀ (j : Nat) t v, Try.f8.params[j]? = some t → args[j]? = some v → Value.okWide Try.prog W .any base t v := hval0
 have hW' := hW
 obtain ⟨p, q, hA0, hV, rfl, hfz, hnd⟩ := hW
 have hA : DataW.TrodAll enc Try.prog W 0 (fun _ => true) true Try.f8.params.toList args.toList ds p := hA0
 rw [Try.params8] at hA hval
 obtain ⟨v0, vs0, d0, ds0, p0, q0, hargs, rfl, rfl, h0, r0⟩ := trodAll_cons hA
 obtain ⟨rfl, rfl, rfl⟩ := trodAll_nil r0
 obtain rfl : args = #[v0] := by cases args; simp_all
 obtain ⟨rfl, rfl⟩ := trodVars_none hV
 have k0 := h0
 have lt0 : ∀ x ∈ p0, x.block < W.heap.size := by obtain ⟨m, hm⟩ := k0; exact DataW.trod_lt m _ _ _ hm
 obtain ⟨A0, l0, c0, rfl, hc0, hm0, hr0, hw0⟩ := open_num Try.underlying29 Try.underlying5 (by kernel_rfl) (hval 0 29 v0 rfl rfl) h0
 clear hA0 hval0
 obtain ⟨M, last, o, w', t', h1, h2, h3, h4⟩ := good_of_wins noGlobals (FnHeardBy_wins A0 l0 c0 W hr0 hc0 hm0 hw0)
 refine ⟨M, last, o, w', t', h1, h2, h3, h4.mono fun x hx => ?_⟩
 obtain ⟨rfl, hos, hout, bel⟩ := hx
 have hs := (trodAll_cons_mk (Below.trod laidOut (by kernel_rfl) (of_decide_eq_true (by kernel_rfl)) k0 bel lt0) trodAll_mk0)
 have hs' := DataW.TrodAll.of_heap (w := w'.re W.tape W.drawn) (w' := w') rfl hs
 refine ⟨_, _, _, [], _, [], hW', trodAll_mk1 (shut_bool Try.underlying4 _), hs', rfl, ?_, fun h => by cases h⟩
 exact kept_re hos hout (bel.frame _)
theorem and_t {a b : Bool} (h : a = true) (k : b = true) : (a && b) = true := by rw [h, k]; rfl
theorem closed : joinedFacts Try.pinned.checked.prog 8 Try.f8 Rows.fnHeardBySpec Rows.fnHeardByRow = true := by
 unfold joinedFacts
 repeat' (with_reducible refine and_t ?_ ?_)
 all_goals first
  | with_reducible exact c_mayEnter
  | ((with_reducible refine c_make _ ?_); rfl)
  | with_reducible exact c_laid
  | with_reducible exact c_rowed
  | with_reducible exact c_heard
  | as_aux_lemma => kernel_rfl
theorem over : Rows.fnHeardByRow.holds Try.pinned (OpenSpec.ofChange Rows.fnHeardBySpec) :=
 OpenClaim.holds_of_wide_leaving 8 Try.f8 rfl rfl rfl rfl rfl rfl rfl ⟨rfl, rfl, rfl, rfl, rfl⟩ rfl rfl rfl rfl rfl (by as_aux_lemma => kernel_rfl) Try.func8 closed
  (of_decide_eq_true (by as_aux_lemma => kernel_rfl)) (by unfold Func.isWrapper; first | (rw [if_pos (by decide +kernel)]; as_aux_lemma => kernel_rfl) | (rw [if_neg (by decide +kernel)]; exact ⟨rfl, rfl⟩))
  (fun os started H enc _ => lifted os started H enc)
theorem proved : Rows.FnHeardBySaid := over
#print axioms proved
end Go.Proofs.Ythmgpkcijolljaa.fnHeardBy
