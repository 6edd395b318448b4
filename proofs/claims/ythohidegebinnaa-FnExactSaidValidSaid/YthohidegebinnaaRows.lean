/-
  No cell of these rows narrows 'for every input' (looked for: loops, veiled, ifaces, maps, wideKeys, modest, calm, conditions, laid).
  DERIVED. THE GIVEN ROWS OF THIS SEAT. 7 by the template 'for every input the law returns true; each argument reads behind the call as it read before'; 0 by the template 'total and deterministic' (their statements: YthohidegebinnaaTotals.lean).
  GIVEN WITH THE SEED: the statements are not yours to turn. If you find one false, say at which input.
  Laid BY PROGRAM, IN A SANDBOX (cutbox-rows.mjs): the forced cells as the released guide's own fill.sh prints them over the translation 902eeb2d2416c6d3… (all of the seat's roots in one cut). By AI agents, Wed Nov 11 2026. No macro, syntax, notation, axiom, sorry.
-/
import Derived.Test.YthohidegebinnaaChecked
import GoSem.Claim
import GoSem.ClaimJoined
import GoSem.ClaimMapViews
import Derived.JoinedTies
import Derived.KernelRfl
namespace Go.Proofs.Ythohidegebinnaa
/- THE CELL 'sum', in the pinned program and in every row, IS THE sha256 OF THE DUMP (.gsa) THAT YthohidegebinnaaProg.lean LOADS. Nothing in Lean hashes anything: it is a label: what it is worth is what the hold of that sum in a sandbox is worth. -/
noncomputable def Try.pinned : Pinned := { name := "ythohidegebinnaa", sum := "902eeb2d2416c6d300afe765718278f73b71cf20b2334daebd2bd39369dce3c9", checked := Try.checked }
namespace Rows
def none {H : Type} : Left H := { results := [], args := [] }

/-- 'laws.FnExactConstants': WHATEVER THE INPUT: true; the input reads as it did. -/
def fnExactConstantsSpec : ChangeSpec := { name := "fnExactConstants", fn := fun _ => fun
  | [] => { results := [.lit (.bool true)], args := [] }
  | _ => none }
def fnExactConstantsRow : OpenClaim := { program := "ythohidegebinnaa", sum := "902eeb2d2416c6d300afe765718278f73b71cf20b2334daebd2bd39369dce3c9", func := "loop.example/channelboard/laws.FnExactConstants", spec := "fnExactConstants", apart := false }
def FnExactConstantsSaid : Prop := fnExactConstantsRow.holds Try.pinned (OpenSpec.ofChange fnExactConstantsSpec)

/-- ITS FALSE NEIGHBOUR: 'it returns false'. Refute it at one input. -/
def fnExactConstantsWrong : ChangeSpec := { name := "fnExactConstants", fn := fun _ => fun
  | [] => { results := [.lit (.bool false)], args := [] }
  | _ => none }
def FnExactConstantsWrongFalsely : Prop := fnExactConstantsRow.holds Try.pinned (OpenSpec.ofChange fnExactConstantsWrong)

/-- 'laws.FnExactOfficeValid': WHATEVER THE INPUT: true; the input reads as it did. -/
def fnExactOfficeValidSpec : ChangeSpec := { name := "fnExactOfficeValid", fn := fun _ => fun
  | [d] => { results := [.lit (.bool true)], args := [d] }
  | _ => none }
def fnExactOfficeValidRow : OpenClaim := { program := "ythohidegebinnaa", sum := "902eeb2d2416c6d300afe765718278f73b71cf20b2334daebd2bd39369dce3c9", func := "loop.example/channelboard/laws.FnExactOfficeValid", spec := "fnExactOfficeValid", apart := false }
def FnExactOfficeValidSaid : Prop := fnExactOfficeValidRow.holds Try.pinned (OpenSpec.ofChange fnExactOfficeValidSpec)

/-- ITS FALSE NEIGHBOUR: 'it returns false'. Refute it at one input. -/
def fnExactOfficeValidWrong : ChangeSpec := { name := "fnExactOfficeValid", fn := fun _ => fun
  | [d] => { results := [.lit (.bool false)], args := [d] }
  | _ => none }
def FnExactOfficeValidWrongFalsely : Prop := fnExactOfficeValidRow.holds Try.pinned (OpenSpec.ofChange fnExactOfficeValidWrong)

/-- 'laws.FnExactDeedValid': WHATEVER THE INPUT: true; the input reads as it did. -/
def fnExactDeedValidSpec : ChangeSpec := { name := "fnExactDeedValid", fn := fun _ => fun
  | [d1, d2] => { results := [.lit (.bool true)], args := [d1, d2] }
  | _ => none }
def fnExactDeedValidRow : OpenClaim := { program := "ythohidegebinnaa", sum := "902eeb2d2416c6d300afe765718278f73b71cf20b2334daebd2bd39369dce3c9", func := "loop.example/channelboard/laws.FnExactDeedValid", spec := "fnExactDeedValid", apart := false }
def FnExactDeedValidSaid : Prop := fnExactDeedValidRow.holds Try.pinned (OpenSpec.ofChange fnExactDeedValidSpec)

/-- ITS FALSE NEIGHBOUR: 'it returns false'. Refute it at one input. -/
def fnExactDeedValidWrong : ChangeSpec := { name := "fnExactDeedValid", fn := fun _ => fun
  | [d1, d2] => { results := [.lit (.bool false)], args := [d1, d2] }
  | _ => none }
def FnExactDeedValidWrongFalsely : Prop := fnExactDeedValidRow.holds Try.pinned (OpenSpec.ofChange fnExactDeedValidWrong)

/-- 'laws.FnExactRoomsValid': WHATEVER THE INPUT: true; the input reads as it did. -/
def fnExactRoomsValidSpec : ChangeSpec := { name := "fnExactRoomsValid", fn := fun _ => fun
  | [d] => { results := [.lit (.bool true)], args := [d] }
  | _ => none }
def fnExactRoomsValidRow : OpenClaim := { program := "ythohidegebinnaa", sum := "902eeb2d2416c6d300afe765718278f73b71cf20b2334daebd2bd39369dce3c9", func := "loop.example/channelboard/laws.FnExactRoomsValid", spec := "fnExactRoomsValid", apart := false }
def FnExactRoomsValidSaid : Prop := fnExactRoomsValidRow.holds Try.pinned (OpenSpec.ofChange fnExactRoomsValidSpec)

/-- ITS FALSE NEIGHBOUR: 'it returns false'. Refute it at one input. -/
def fnExactRoomsValidWrong : ChangeSpec := { name := "fnExactRoomsValid", fn := fun _ => fun
  | [d] => { results := [.lit (.bool false)], args := [d] }
  | _ => none }
def FnExactRoomsValidWrongFalsely : Prop := fnExactRoomsValidRow.holds Try.pinned (OpenSpec.ofChange fnExactRoomsValidWrong)

/-- 'laws.FnExactFieldValid': WHATEVER THE INPUT: true; the input reads as it did. -/
def fnExactFieldValidSpec : ChangeSpec := { name := "fnExactFieldValid", fn := fun _ => fun
  | [d] => { results := [.lit (.bool true)], args := [d] }
  | _ => none }
def fnExactFieldValidRow : OpenClaim := { program := "ythohidegebinnaa", sum := "902eeb2d2416c6d300afe765718278f73b71cf20b2334daebd2bd39369dce3c9", func := "loop.example/channelboard/laws.FnExactFieldValid", spec := "fnExactFieldValid", apart := false }
def FnExactFieldValidSaid : Prop := fnExactFieldValidRow.holds Try.pinned (OpenSpec.ofChange fnExactFieldValidSpec)

/-- ITS FALSE NEIGHBOUR: 'it returns false'. Refute it at one input. -/
def fnExactFieldValidWrong : ChangeSpec := { name := "fnExactFieldValid", fn := fun _ => fun
  | [d] => { results := [.lit (.bool false)], args := [d] }
  | _ => none }
def FnExactFieldValidWrongFalsely : Prop := fnExactFieldValidRow.holds Try.pinned (OpenSpec.ofChange fnExactFieldValidWrong)

/-- 'laws.FnExactSaidValid': WHATEVER THE INPUT: true; the input reads as it did. -/
def fnExactSaidValidSpec : ChangeSpec := { name := "fnExactSaidValid", fn := fun _ => fun
  | [d1, d2] => { results := [.lit (.bool true)], args := [d1, d2] }
  | _ => none }
def fnExactSaidValidRow : OpenClaim := { program := "ythohidegebinnaa", sum := "902eeb2d2416c6d300afe765718278f73b71cf20b2334daebd2bd39369dce3c9", func := "loop.example/channelboard/laws.FnExactSaidValid", spec := "fnExactSaidValid", apart := false }
def FnExactSaidValidSaid : Prop := fnExactSaidValidRow.holds Try.pinned (OpenSpec.ofChange fnExactSaidValidSpec)

/-- ITS FALSE NEIGHBOUR: 'it returns false'. Refute it at one input. -/
def fnExactSaidValidWrong : ChangeSpec := { name := "fnExactSaidValid", fn := fun _ => fun
  | [d1, d2] => { results := [.lit (.bool false)], args := [d1, d2] }
  | _ => none }
def FnExactSaidValidWrongFalsely : Prop := fnExactSaidValidRow.holds Try.pinned (OpenSpec.ofChange fnExactSaidValidWrong)

/-- 'laws.FnExactEventValid': WHATEVER THE INPUT: true; the input reads as it did. -/
def fnExactEventValidSpec : ChangeSpec := { name := "fnExactEventValid", fn := fun _ => fun
  | [d1, d2] => { results := [.lit (.bool true)], args := [d1, d2] }
  | _ => none }
def fnExactEventValidRow : OpenClaim := { program := "ythohidegebinnaa", sum := "902eeb2d2416c6d300afe765718278f73b71cf20b2334daebd2bd39369dce3c9", func := "loop.example/channelboard/laws.FnExactEventValid", spec := "fnExactEventValid", apart := false }
def FnExactEventValidSaid : Prop := fnExactEventValidRow.holds Try.pinned (OpenSpec.ofChange fnExactEventValidSpec)

/-- ITS FALSE NEIGHBOUR: 'it returns false'. Refute it at one input. -/
def fnExactEventValidWrong : ChangeSpec := { name := "fnExactEventValid", fn := fun _ => fun
  | [d1, d2] => { results := [.lit (.bool false)], args := [d1, d2] }
  | _ => none }
def FnExactEventValidWrongFalsely : Prop := fnExactEventValidRow.holds Try.pinned (OpenSpec.ofChange fnExactEventValidWrong)

/- THE SECOND FORM. 'bulk': how many values and letters a reading holds, each counted each time it is reached (what is shared counts as often as it is met; a slice's spare places count too). A statement '..UptoSaid' is the law's where the arguments, and the package variables that the reading takes, are together of bulk at most 1048576: NARROWER than '..Said'. Prove '..Said' where nothing that the law and all that it calls make is longer than what came in: it says more and counts as full. Else prove '..UptoSaid'. A law counts once. -/
mutual
def uptoBulk {H : Type} : DataW H → Nat
  | .lit (.string bytes) => bytes.length + 1
  | .lit _ => 1
  | .nil => 1
  | .ptr d => uptoBulk d + 1
  | .slice elems spare => uptoBulkAll elems + uptoBulkAll spare + 1
  | .agg parts => uptoBulkAll parts + 1
  | .iface _ d => uptoBulk d + 1
  | .map entries => uptoBulkEntries entries + 1
  | .held _ => 1
def uptoBulkAll {H : Type} : List (DataW H) → Nat
  | [] => 0
  | d :: r => uptoBulk d + uptoBulkAll r
def uptoBulkEntries {H : Type} : List (Lit × DataW H) → Nat
  | [] => 0
  | x :: r => uptoBulkEntry x + uptoBulkEntries r
def uptoBulkEntry {H : Type} : Lit × DataW H → Nat
  | (.string bytes, d) => bytes.length + uptoBulk d + 1
  | (_, d) => uptoBulk d + 1
 end
def uptoSmall : (H : Type) → List (DataW H) → Bool := fun _ ds => decide (uptoBulkAll ds ≤ 1048576)
def OpenSpec.upto (s : _root_.Go.ChangeSpec) : _root_.Go.OpenSpec := { _root_.Go.OpenSpec.ofChange s with cond := some uptoSmall }

/-- 'laws.FnExactConstants', WHERE WHAT IT READS IS OF BULK AT MOST 1048576: true; the input reads as it did. -/
def fnExactConstantsUptoRow : OpenClaim := { program := "ythohidegebinnaa", sum := "902eeb2d2416c6d300afe765718278f73b71cf20b2334daebd2bd39369dce3c9", func := "loop.example/channelboard/laws.FnExactConstants", spec := "fnExactConstants", apart := false, narrowed := true }
def FnExactConstantsUptoSaid : Prop := fnExactConstantsUptoRow.holds Try.pinned (OpenSpec.upto fnExactConstantsSpec)

/-- 'laws.FnExactOfficeValid', WHERE WHAT IT READS IS OF BULK AT MOST 1048576: true; the input reads as it did. -/
def fnExactOfficeValidUptoRow : OpenClaim := { program := "ythohidegebinnaa", sum := "902eeb2d2416c6d300afe765718278f73b71cf20b2334daebd2bd39369dce3c9", func := "loop.example/channelboard/laws.FnExactOfficeValid", spec := "fnExactOfficeValid", apart := false, narrowed := true }
def FnExactOfficeValidUptoSaid : Prop := fnExactOfficeValidUptoRow.holds Try.pinned (OpenSpec.upto fnExactOfficeValidSpec)

/-- 'laws.FnExactDeedValid', WHERE WHAT IT READS IS OF BULK AT MOST 1048576: true; the input reads as it did. -/
def fnExactDeedValidUptoRow : OpenClaim := { program := "ythohidegebinnaa", sum := "902eeb2d2416c6d300afe765718278f73b71cf20b2334daebd2bd39369dce3c9", func := "loop.example/channelboard/laws.FnExactDeedValid", spec := "fnExactDeedValid", apart := false, narrowed := true }
def FnExactDeedValidUptoSaid : Prop := fnExactDeedValidUptoRow.holds Try.pinned (OpenSpec.upto fnExactDeedValidSpec)

/-- 'laws.FnExactRoomsValid', WHERE WHAT IT READS IS OF BULK AT MOST 1048576: true; the input reads as it did. -/
def fnExactRoomsValidUptoRow : OpenClaim := { program := "ythohidegebinnaa", sum := "902eeb2d2416c6d300afe765718278f73b71cf20b2334daebd2bd39369dce3c9", func := "loop.example/channelboard/laws.FnExactRoomsValid", spec := "fnExactRoomsValid", apart := false, narrowed := true }
def FnExactRoomsValidUptoSaid : Prop := fnExactRoomsValidUptoRow.holds Try.pinned (OpenSpec.upto fnExactRoomsValidSpec)

/-- 'laws.FnExactFieldValid', WHERE WHAT IT READS IS OF BULK AT MOST 1048576: true; the input reads as it did. -/
def fnExactFieldValidUptoRow : OpenClaim := { program := "ythohidegebinnaa", sum := "902eeb2d2416c6d300afe765718278f73b71cf20b2334daebd2bd39369dce3c9", func := "loop.example/channelboard/laws.FnExactFieldValid", spec := "fnExactFieldValid", apart := false, narrowed := true }
def FnExactFieldValidUptoSaid : Prop := fnExactFieldValidUptoRow.holds Try.pinned (OpenSpec.upto fnExactFieldValidSpec)

/-- 'laws.FnExactSaidValid', WHERE WHAT IT READS IS OF BULK AT MOST 1048576: true; the input reads as it did. -/
def fnExactSaidValidUptoRow : OpenClaim := { program := "ythohidegebinnaa", sum := "902eeb2d2416c6d300afe765718278f73b71cf20b2334daebd2bd39369dce3c9", func := "loop.example/channelboard/laws.FnExactSaidValid", spec := "fnExactSaidValid", apart := false, narrowed := true }
def FnExactSaidValidUptoSaid : Prop := fnExactSaidValidUptoRow.holds Try.pinned (OpenSpec.upto fnExactSaidValidSpec)

/-- 'laws.FnExactEventValid', WHERE WHAT IT READS IS OF BULK AT MOST 1048576: true; the input reads as it did. -/
def fnExactEventValidUptoRow : OpenClaim := { program := "ythohidegebinnaa", sum := "902eeb2d2416c6d300afe765718278f73b71cf20b2334daebd2bd39369dce3c9", func := "loop.example/channelboard/laws.FnExactEventValid", spec := "fnExactEventValid", apart := false, narrowed := true }
def FnExactEventValidUptoSaid : Prop := fnExactEventValidUptoRow.holds Try.pinned (OpenSpec.upto fnExactEventValidSpec)

end Rows
end Go.Proofs.Ythohidegebinnaa
