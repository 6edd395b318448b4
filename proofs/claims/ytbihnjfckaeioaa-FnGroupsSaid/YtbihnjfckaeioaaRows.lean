/-
  No cell of these rows narrows 'for every input' (looked for: loops, veiled, ifaces, maps, wideKeys, modest, calm, conditions, laid).
  DERIVED. THE GIVEN ROWS OF THIS SEAT. 4 by the template 'for every input the law returns true; each argument reads behind the call as it read before'; 0 by the template 'total and deterministic' (their statements: YtbihnjfckaeioaaTotals.lean).
  GIVEN WITH THE SEED: the statements are not yours to turn. If you find one false, say at which input.
  Laid BY PROGRAM, IN A SANDBOX (cutbox-rows.mjs): the forced cells as the released guide's own fill.sh prints them over the translation 88664254904d44c5… (all of the seat's roots in one cut). By AI agents, Wed Nov 11 2026. No macro, syntax, notation, axiom, sorry.
-/
import Derived.Test.YtbihnjfckaeioaaChecked
import GoSem.Claim
import GoSem.ClaimJoined
import GoSem.ClaimMapViews
import Derived.JoinedTies
import Derived.KernelRfl
namespace Go.Proofs.Ytbihnjfckaeioaa
/- THE CELL 'sum', in the pinned program and in every row, IS THE sha256 OF THE DUMP (.gsa) THAT YtbihnjfckaeioaaProg.lean LOADS. Nothing in Lean hashes anything: it is a label: what it is worth is what the hold of that sum in a sandbox is worth. -/
noncomputable def Try.pinned : Pinned := { name := "ytbihnjfckaeioaa", sum := "88664254904d44c52c5718810d97d126806bcd8c604be0599e6c9354785e5d37", checked := Try.checked }
namespace Rows
def none {H : Type} : Left H := { results := [], args := [] }

/-- 'laws.FnMovePlugs': WHATEVER THE INPUT: true; the input reads as it did. -/
def fnMovePlugsSpec : ChangeSpec := { name := "fnMovePlugs", fn := fun _ => fun
  | [d] => { results := [.lit (.bool true)], args := [d] }
  | _ => none }
def fnMovePlugsRow : OpenClaim := { program := "ytbihnjfckaeioaa", sum := "88664254904d44c52c5718810d97d126806bcd8c604be0599e6c9354785e5d37", func := "loop.example/channelboard/laws.FnMovePlugs", spec := "fnMovePlugs", apart := false }
def FnMovePlugsSaid : Prop := fnMovePlugsRow.holds Try.pinned (OpenSpec.ofChange fnMovePlugsSpec)

/-- ITS FALSE NEIGHBOUR: 'it returns false'. Refute it at one input. -/
def fnMovePlugsWrong : ChangeSpec := { name := "fnMovePlugs", fn := fun _ => fun
  | [d] => { results := [.lit (.bool false)], args := [d] }
  | _ => none }
def FnMovePlugsWrongFalsely : Prop := fnMovePlugsRow.holds Try.pinned (OpenSpec.ofChange fnMovePlugsWrong)

/-- 'laws.FnExactGroupsOf': WHATEVER THE INPUT: true; the input reads as it did. -/
def fnExactGroupsOfSpec : ChangeSpec := { name := "fnExactGroupsOf", fn := fun _ => fun
  | [d] => { results := [.lit (.bool true)], args := [d] }
  | _ => none }
def fnExactGroupsOfRow : OpenClaim := { program := "ytbihnjfckaeioaa", sum := "88664254904d44c52c5718810d97d126806bcd8c604be0599e6c9354785e5d37", func := "loop.example/channelboard/laws.FnExactGroupsOf", spec := "fnExactGroupsOf", apart := false }
def FnExactGroupsOfSaid : Prop := fnExactGroupsOfRow.holds Try.pinned (OpenSpec.ofChange fnExactGroupsOfSpec)

/-- ITS FALSE NEIGHBOUR: 'it returns false'. Refute it at one input. -/
def fnExactGroupsOfWrong : ChangeSpec := { name := "fnExactGroupsOf", fn := fun _ => fun
  | [d] => { results := [.lit (.bool false)], args := [d] }
  | _ => none }
def FnExactGroupsOfWrongFalsely : Prop := fnExactGroupsOfRow.holds Try.pinned (OpenSpec.ofChange fnExactGroupsOfWrong)

/-- 'laws.FnGroups': WHATEVER THE INPUT: true; the input reads as it did. -/
def fnGroupsSpec : ChangeSpec := { name := "fnGroups", fn := fun _ => fun
  | [d] => { results := [.lit (.bool true)], args := [d] }
  | _ => none }
def fnGroupsRow : OpenClaim := { program := "ytbihnjfckaeioaa", sum := "88664254904d44c52c5718810d97d126806bcd8c604be0599e6c9354785e5d37", func := "loop.example/channelboard/laws.FnGroups", spec := "fnGroups", apart := false }
def FnGroupsSaid : Prop := fnGroupsRow.holds Try.pinned (OpenSpec.ofChange fnGroupsSpec)

/-- ITS FALSE NEIGHBOUR: 'it returns false'. Refute it at one input. -/
def fnGroupsWrong : ChangeSpec := { name := "fnGroups", fn := fun _ => fun
  | [d] => { results := [.lit (.bool false)], args := [d] }
  | _ => none }
def FnGroupsWrongFalsely : Prop := fnGroupsRow.holds Try.pinned (OpenSpec.ofChange fnGroupsWrong)

/-- 'laws.FnPlugIn': WHATEVER THE INPUT: true; the input reads as it did. -/
def fnPlugInSpec : ChangeSpec := { name := "fnPlugIn", fn := fun _ => fun
  | [d] => { results := [.lit (.bool true)], args := [d] }
  | _ => none }
def fnPlugInRow : OpenClaim := { program := "ytbihnjfckaeioaa", sum := "88664254904d44c52c5718810d97d126806bcd8c604be0599e6c9354785e5d37", func := "loop.example/channelboard/laws.FnPlugIn", spec := "fnPlugIn", apart := false }
def FnPlugInSaid : Prop := fnPlugInRow.holds Try.pinned (OpenSpec.ofChange fnPlugInSpec)

/-- ITS FALSE NEIGHBOUR: 'it returns false'. Refute it at one input. -/
def fnPlugInWrong : ChangeSpec := { name := "fnPlugIn", fn := fun _ => fun
  | [d] => { results := [.lit (.bool false)], args := [d] }
  | _ => none }
def FnPlugInWrongFalsely : Prop := fnPlugInRow.holds Try.pinned (OpenSpec.ofChange fnPlugInWrong)

/- THE SECOND FORM. 'bulk': how many values and letters a reading holds, each counted each time it is reached (what is shared counts as often as it is met; a slice's spare places count too). A statement '..UptoSaid' is the law's where the arguments, and the package variables that the reading takes, are together of bulk at most 1048576: NARROWER than '..Said'. Prove '..Said' where nothing that the law and all that it calls make is longer than what came in: it says more and counts as full. Else prove '..UptoSaid'. A law counts once. -/
mutual
def uptoBulk {H : Type} : DataW H → Nat
  | .lit (.string bytes) => bytes.length + 1
  | .lit _ => 1
  | .nil => 1
  | .ptr d => uptoBulk d + 1
  | .slice elems spare => uptoBulkAll elems + uptoBulkAll spare + 1
  | .agg parts => uptoBulkAll parts + 1
  | .iface _ d => uptoBulk d + 1
  | .map entries => uptoBulkEntries entries + 1
  | .held _ => 1
def uptoBulkAll {H : Type} : List (DataW H) → Nat
  | [] => 0
  | d :: r => uptoBulk d + uptoBulkAll r
def uptoBulkEntries {H : Type} : List (Lit × DataW H) → Nat
  | [] => 0
  | x :: r => uptoBulkEntry x + uptoBulkEntries r
def uptoBulkEntry {H : Type} : Lit × DataW H → Nat
  | (.string bytes, d) => bytes.length + uptoBulk d + 1
  | (_, d) => uptoBulk d + 1
 end
def uptoSmall : (H : Type) → List (DataW H) → Bool := fun _ ds => decide (uptoBulkAll ds ≤ 1048576)
def OpenSpec.upto (s : _root_.Go.ChangeSpec) : _root_.Go.OpenSpec := { _root_.Go.OpenSpec.ofChange s with cond := some uptoSmall }

/-- 'laws.FnMovePlugs', WHERE WHAT IT READS IS OF BULK AT MOST 1048576: true; the input reads as it did. -/
def fnMovePlugsUptoRow : OpenClaim := { program := "ytbihnjfckaeioaa", sum := "88664254904d44c52c5718810d97d126806bcd8c604be0599e6c9354785e5d37", func := "loop.example/channelboard/laws.FnMovePlugs", spec := "fnMovePlugs", apart := false, narrowed := true }
def FnMovePlugsUptoSaid : Prop := fnMovePlugsUptoRow.holds Try.pinned (OpenSpec.upto fnMovePlugsSpec)

/-- 'laws.FnExactGroupsOf', WHERE WHAT IT READS IS OF BULK AT MOST 1048576: true; the input reads as it did. -/
def fnExactGroupsOfUptoRow : OpenClaim := { program := "ytbihnjfckaeioaa", sum := "88664254904d44c52c5718810d97d126806bcd8c604be0599e6c9354785e5d37", func := "loop.example/channelboard/laws.FnExactGroupsOf", spec := "fnExactGroupsOf", apart := false, narrowed := true }
def FnExactGroupsOfUptoSaid : Prop := fnExactGroupsOfUptoRow.holds Try.pinned (OpenSpec.upto fnExactGroupsOfSpec)

/-- 'laws.FnGroups', WHERE WHAT IT READS IS OF BULK AT MOST 1048576: true; the input reads as it did. -/
def fnGroupsUptoRow : OpenClaim := { program := "ytbihnjfckaeioaa", sum := "88664254904d44c52c5718810d97d126806bcd8c604be0599e6c9354785e5d37", func := "loop.example/channelboard/laws.FnGroups", spec := "fnGroups", apart := false, narrowed := true }
def FnGroupsUptoSaid : Prop := fnGroupsUptoRow.holds Try.pinned (OpenSpec.upto fnGroupsSpec)

/-- 'laws.FnPlugIn', WHERE WHAT IT READS IS OF BULK AT MOST 1048576: true; the input reads as it did. -/
def fnPlugInUptoRow : OpenClaim := { program := "ytbihnjfckaeioaa", sum := "88664254904d44c52c5718810d97d126806bcd8c604be0599e6c9354785e5d37", func := "loop.example/channelboard/laws.FnPlugIn", spec := "fnPlugIn", apart := false, narrowed := true }
def FnPlugInUptoSaid : Prop := fnPlugInUptoRow.holds Try.pinned (OpenSpec.upto fnPlugInSpec)

end Rows
end Go.Proofs.Ytbihnjfckaeioaa
