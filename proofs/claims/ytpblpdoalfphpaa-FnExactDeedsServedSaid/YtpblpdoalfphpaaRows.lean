/-
  No cell of these rows narrows 'for every input' (looked for: loops, veiled, ifaces, maps, wideKeys, modest, calm, conditions, laid).
  DERIVED. THE GIVEN ROWS OF THIS SEAT. 5 by the template 'for every input the law returns true; each argument reads behind the call as it read before'; 0 by the template 'total and deterministic' (their statements: YtpblpdoalfphpaaTotals.lean).
  GIVEN WITH THE SEED: the statements are not yours to turn. If you find one false, say at which input.
  Laid BY PROGRAM, IN A SANDBOX (cutbox-rows.mjs): the forced cells as the released guide's own fill.sh prints them over the translation ccf335fdcd532067… (all of the seat's roots in one cut). By AI agents, Wed Nov 11 2026. No macro, syntax, notation, axiom, sorry.
-/
import Derived.Test.YtpblpdoalfphpaaChecked
import GoSem.Claim
import GoSem.ClaimJoined
import GoSem.ClaimMapViews
import Derived.JoinedTies
import Derived.KernelRfl
namespace Go.Proofs.Ytpblpdoalfphpaa
/- THE CELL 'sum', in the pinned program and in every row, IS THE sha256 OF THE DUMP (.gsa) THAT YtpblpdoalfphpaaProg.lean LOADS. Nothing in Lean hashes anything: it is a label: what it is worth is what the hold of that sum in a sandbox is worth. -/
noncomputable def Try.pinned : Pinned := { name := "ytpblpdoalfphpaa", sum := "ccf335fdcd532067225529647a34eab4ea78533076de8002408b2a5a77d8c221", checked := Try.checked }
namespace Rows
def none {H : Type} : Left H := { results := [], args := [] }

/-- 'laws.FnExactPlanValid': WHATEVER THE INPUT: true; the input reads as it did. -/
def fnExactPlanValidSpec : ChangeSpec := { name := "fnExactPlanValid", fn := fun _ => fun
  | [d1, d2] => { results := [.lit (.bool true)], args := [d1, d2] }
  | _ => none }
def fnExactPlanValidRow : OpenClaim := { program := "ytpblpdoalfphpaa", sum := "ccf335fdcd532067225529647a34eab4ea78533076de8002408b2a5a77d8c221", func := "loop.example/channelboard/laws.FnExactPlanValid", spec := "fnExactPlanValid", apart := false }
def FnExactPlanValidSaid : Prop := fnExactPlanValidRow.holds Try.pinned (OpenSpec.ofChange fnExactPlanValidSpec)

/-- ITS FALSE NEIGHBOUR: 'it returns false'. Refute it at one input. -/
def fnExactPlanValidWrong : ChangeSpec := { name := "fnExactPlanValid", fn := fun _ => fun
  | [d1, d2] => { results := [.lit (.bool false)], args := [d1, d2] }
  | _ => none }
def FnExactPlanValidWrongFalsely : Prop := fnExactPlanValidRow.holds Try.pinned (OpenSpec.ofChange fnExactPlanValidWrong)

/-- 'laws.FnExactTableValid': WHATEVER THE INPUT: true; the input reads as it did. -/
def fnExactTableValidSpec : ChangeSpec := { name := "fnExactTableValid", fn := fun _ => fun
  | [d1, d2] => { results := [.lit (.bool true)], args := [d1, d2] }
  | _ => none }
def fnExactTableValidRow : OpenClaim := { program := "ytpblpdoalfphpaa", sum := "ccf335fdcd532067225529647a34eab4ea78533076de8002408b2a5a77d8c221", func := "loop.example/channelboard/laws.FnExactTableValid", spec := "fnExactTableValid", apart := false }
def FnExactTableValidSaid : Prop := fnExactTableValidRow.holds Try.pinned (OpenSpec.ofChange fnExactTableValidSpec)

/-- ITS FALSE NEIGHBOUR: 'it returns false'. Refute it at one input. -/
def fnExactTableValidWrong : ChangeSpec := { name := "fnExactTableValid", fn := fun _ => fun
  | [d1, d2] => { results := [.lit (.bool false)], args := [d1, d2] }
  | _ => none }
def FnExactTableValidWrongFalsely : Prop := fnExactTableValidRow.holds Try.pinned (OpenSpec.ofChange fnExactTableValidWrong)

/-- 'laws.FnExactDeedsServed': WHATEVER THE INPUT: true; the input reads as it did. -/
def fnExactDeedsServedSpec : ChangeSpec := { name := "fnExactDeedsServed", fn := fun _ => fun
  | [d1, d2] => { results := [.lit (.bool true)], args := [d1, d2] }
  | _ => none }
def fnExactDeedsServedRow : OpenClaim := { program := "ytpblpdoalfphpaa", sum := "ccf335fdcd532067225529647a34eab4ea78533076de8002408b2a5a77d8c221", func := "loop.example/channelboard/laws.FnExactDeedsServed", spec := "fnExactDeedsServed", apart := false }
def FnExactDeedsServedSaid : Prop := fnExactDeedsServedRow.holds Try.pinned (OpenSpec.ofChange fnExactDeedsServedSpec)

/-- ITS FALSE NEIGHBOUR: 'it returns false'. Refute it at one input. -/
def fnExactDeedsServedWrong : ChangeSpec := { name := "fnExactDeedsServed", fn := fun _ => fun
  | [d1, d2] => { results := [.lit (.bool false)], args := [d1, d2] }
  | _ => none }
def FnExactDeedsServedWrongFalsely : Prop := fnExactDeedsServedRow.holds Try.pinned (OpenSpec.ofChange fnExactDeedsServedWrong)

/-- 'laws.FnExactPartiesValid': WHATEVER THE INPUT: true; the input reads as it did. -/
def fnExactPartiesValidSpec : ChangeSpec := { name := "fnExactPartiesValid", fn := fun _ => fun
  | [d1, d2] => { results := [.lit (.bool true)], args := [d1, d2] }
  | _ => none }
def fnExactPartiesValidRow : OpenClaim := { program := "ytpblpdoalfphpaa", sum := "ccf335fdcd532067225529647a34eab4ea78533076de8002408b2a5a77d8c221", func := "loop.example/channelboard/laws.FnExactPartiesValid", spec := "fnExactPartiesValid", apart := false }
def FnExactPartiesValidSaid : Prop := fnExactPartiesValidRow.holds Try.pinned (OpenSpec.ofChange fnExactPartiesValidSpec)

/-- ITS FALSE NEIGHBOUR: 'it returns false'. Refute it at one input. -/
def fnExactPartiesValidWrong : ChangeSpec := { name := "fnExactPartiesValid", fn := fun _ => fun
  | [d1, d2] => { results := [.lit (.bool false)], args := [d1, d2] }
  | _ => none }
def FnExactPartiesValidWrongFalsely : Prop := fnExactPartiesValidRow.holds Try.pinned (OpenSpec.ofChange fnExactPartiesValidWrong)

/-- 'laws.FnExactHandingValid': WHATEVER THE INPUT: true; the input reads as it did. -/
def fnExactHandingValidSpec : ChangeSpec := { name := "fnExactHandingValid", fn := fun _ => fun
  | [d1, d2, d3] => { results := [.lit (.bool true)], args := [d1, d2, d3] }
  | _ => none }
def fnExactHandingValidRow : OpenClaim := { program := "ytpblpdoalfphpaa", sum := "ccf335fdcd532067225529647a34eab4ea78533076de8002408b2a5a77d8c221", func := "loop.example/channelboard/laws.FnExactHandingValid", spec := "fnExactHandingValid", apart := false }
def FnExactHandingValidSaid : Prop := fnExactHandingValidRow.holds Try.pinned (OpenSpec.ofChange fnExactHandingValidSpec)

/-- ITS FALSE NEIGHBOUR: 'it returns false'. Refute it at one input. -/
def fnExactHandingValidWrong : ChangeSpec := { name := "fnExactHandingValid", fn := fun _ => fun
  | [d1, d2, d3] => { results := [.lit (.bool false)], args := [d1, d2, d3] }
  | _ => none }
def FnExactHandingValidWrongFalsely : Prop := fnExactHandingValidRow.holds Try.pinned (OpenSpec.ofChange fnExactHandingValidWrong)

/- THE SECOND FORM. 'bulk': how many values and letters a reading holds, each counted each time it is reached (what is shared counts as often as it is met; a slice's spare places count too). A statement '..UptoSaid' is the law's where the arguments, and the package variables that the reading takes, are together of bulk at most 1048576: NARROWER than '..Said'. Prove '..Said' where nothing that the law and all that it calls make is longer than what came in: it says more and counts as full. Else prove '..UptoSaid'. A law counts once. -/
mutual
def uptoBulk {H : Type} : DataW H → Nat
  | .lit (.string bytes) => bytes.length + 1
  | .lit _ => 1
  | .nil => 1
  | .ptr d => uptoBulk d + 1
  | .slice elems spare => uptoBulkAll elems + uptoBulkAll spare + 1
  | .agg parts => uptoBulkAll parts + 1
  | .iface _ d => uptoBulk d + 1
  | .map entries => uptoBulkEntries entries + 1
  | .held _ => 1
def uptoBulkAll {H : Type} : List (DataW H) → Nat
  | [] => 0
  | d :: r => uptoBulk d + uptoBulkAll r
def uptoBulkEntries {H : Type} : List (Lit × DataW H) → Nat
  | [] => 0
  | x :: r => uptoBulkEntry x + uptoBulkEntries r
def uptoBulkEntry {H : Type} : Lit × DataW H → Nat
  | (.string bytes, d) => bytes.length + uptoBulk d + 1
  | (_, d) => uptoBulk d + 1
 end
def uptoSmall : (H : Type) → List (DataW H) → Bool := fun _ ds => decide (uptoBulkAll ds ≤ 1048576)
def OpenSpec.upto (s : _root_.Go.ChangeSpec) : _root_.Go.OpenSpec := { _root_.Go.OpenSpec.ofChange s with cond := some uptoSmall }

/-- 'laws.FnExactPlanValid', WHERE WHAT IT READS IS OF BULK AT MOST 1048576: true; the input reads as it did. -/
def fnExactPlanValidUptoRow : OpenClaim := { program := "ytpblpdoalfphpaa", sum := "ccf335fdcd532067225529647a34eab4ea78533076de8002408b2a5a77d8c221", func := "loop.example/channelboard/laws.FnExactPlanValid", spec := "fnExactPlanValid", apart := false, narrowed := true }
def FnExactPlanValidUptoSaid : Prop := fnExactPlanValidUptoRow.holds Try.pinned (OpenSpec.upto fnExactPlanValidSpec)

/-- 'laws.FnExactTableValid', WHERE WHAT IT READS IS OF BULK AT MOST 1048576: true; the input reads as it did. -/
def fnExactTableValidUptoRow : OpenClaim := { program := "ytpblpdoalfphpaa", sum := "ccf335fdcd532067225529647a34eab4ea78533076de8002408b2a5a77d8c221", func := "loop.example/channelboard/laws.FnExactTableValid", spec := "fnExactTableValid", apart := false, narrowed := true }
def FnExactTableValidUptoSaid : Prop := fnExactTableValidUptoRow.holds Try.pinned (OpenSpec.upto fnExactTableValidSpec)

/-- 'laws.FnExactDeedsServed', WHERE WHAT IT READS IS OF BULK AT MOST 1048576: true; the input reads as it did. -/
def fnExactDeedsServedUptoRow : OpenClaim := { program := "ytpblpdoalfphpaa", sum := "ccf335fdcd532067225529647a34eab4ea78533076de8002408b2a5a77d8c221", func := "loop.example/channelboard/laws.FnExactDeedsServed", spec := "fnExactDeedsServed", apart := false, narrowed := true }
def FnExactDeedsServedUptoSaid : Prop := fnExactDeedsServedUptoRow.holds Try.pinned (OpenSpec.upto fnExactDeedsServedSpec)

/-- 'laws.FnExactPartiesValid', WHERE WHAT IT READS IS OF BULK AT MOST 1048576: true; the input reads as it did. -/
def fnExactPartiesValidUptoRow : OpenClaim := { program := "ytpblpdoalfphpaa", sum := "ccf335fdcd532067225529647a34eab4ea78533076de8002408b2a5a77d8c221", func := "loop.example/channelboard/laws.FnExactPartiesValid", spec := "fnExactPartiesValid", apart := false, narrowed := true }
def FnExactPartiesValidUptoSaid : Prop := fnExactPartiesValidUptoRow.holds Try.pinned (OpenSpec.upto fnExactPartiesValidSpec)

/-- 'laws.FnExactHandingValid', WHERE WHAT IT READS IS OF BULK AT MOST 1048576: true; the input reads as it did. -/
def fnExactHandingValidUptoRow : OpenClaim := { program := "ytpblpdoalfphpaa", sum := "ccf335fdcd532067225529647a34eab4ea78533076de8002408b2a5a77d8c221", func := "loop.example/channelboard/laws.FnExactHandingValid", spec := "fnExactHandingValid", apart := false, narrowed := true }
def FnExactHandingValidUptoSaid : Prop := fnExactHandingValidUptoRow.holds Try.pinned (OpenSpec.upto fnExactHandingValidSpec)

end Rows
end Go.Proofs.Ytpblpdoalfphpaa
