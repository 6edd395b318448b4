/-
  No cell of these rows narrows 'for every input' (looked for: loops, veiled, ifaces, maps, wideKeys, modest, calm, conditions, laid).
  DERIVED. THE GIVEN ROWS OF THIS SEAT. 6 by the template 'for every input the law returns true; each argument reads behind the call as it read before'; 0 by the template 'total and deterministic' (their statements: YtnfjgepakfbcnaaTotals.lean).
  GIVEN WITH THE SEED: the statements are not yours to turn. If you find one false, say at which input.
  Laid BY PROGRAM, IN A SANDBOX (cutbox-rows.mjs): the forced cells as the released guide's own fill.sh prints them over the translation cfd3e69559f9ad40… (all of the seat's roots in one cut). By AI agents, Wed Nov 11 2026. No macro, syntax, notation, axiom, sorry.
-/
import Derived.Test.YtnfjgepakfbcnaaChecked
import GoSem.Claim
import GoSem.ClaimJoined
import GoSem.ClaimMapViews
import Derived.JoinedTies
import Derived.KernelRfl
namespace Go.Proofs.Ytnfjgepakfbcnaa
/- THE CELL 'sum', in the pinned program and in every row, IS THE sha256 OF THE DUMP (.gsa) THAT YtnfjgepakfbcnaaProg.lean LOADS. Nothing in Lean hashes anything: it is a label: what it is worth is what the hold of that sum in a sandbox is worth. -/
noncomputable def Try.pinned : Pinned := { name := "ytnfjgepakfbcnaa", sum := "cfd3e69559f9ad40e2b28cddd5df7c74ebd56a2e9900ce50599da68a554c8d2c", checked := Try.checked }
namespace Rows
def none {H : Type} : Left H := { results := [], args := [] }

/-- 'laws.FnExactSameLine': WHATEVER THE INPUT: true; the input reads as it did. -/
def fnExactSameLineSpec : ChangeSpec := { name := "fnExactSameLine", fn := fun _ => fun
  | [d1, d2, d3] => { results := [.lit (.bool true)], args := [d1, d2, d3] }
  | _ => none }
def fnExactSameLineRow : OpenClaim := { program := "ytnfjgepakfbcnaa", sum := "cfd3e69559f9ad40e2b28cddd5df7c74ebd56a2e9900ce50599da68a554c8d2c", func := "loop.example/channelboard/laws.FnExactSameLine", spec := "fnExactSameLine", apart := false }
def FnExactSameLineSaid : Prop := fnExactSameLineRow.holds Try.pinned (OpenSpec.ofChange fnExactSameLineSpec)

/-- ITS FALSE NEIGHBOUR: 'it returns false'. Refute it at one input. -/
def fnExactSameLineWrong : ChangeSpec := { name := "fnExactSameLine", fn := fun _ => fun
  | [d1, d2, d3] => { results := [.lit (.bool false)], args := [d1, d2, d3] }
  | _ => none }
def FnExactSameLineWrongFalsely : Prop := fnExactSameLineRow.holds Try.pinned (OpenSpec.ofChange fnExactSameLineWrong)

/-- 'laws.FnExactPlugsOf': WHATEVER THE INPUT: true; the input reads as it did. -/
def fnExactPlugsOfSpec : ChangeSpec := { name := "fnExactPlugsOf", fn := fun _ => fun
  | [d1, d2] => { results := [.lit (.bool true)], args := [d1, d2] }
  | _ => none }
def fnExactPlugsOfRow : OpenClaim := { program := "ytnfjgepakfbcnaa", sum := "cfd3e69559f9ad40e2b28cddd5df7c74ebd56a2e9900ce50599da68a554c8d2c", func := "loop.example/channelboard/laws.FnExactPlugsOf", spec := "fnExactPlugsOf", apart := false }
def FnExactPlugsOfSaid : Prop := fnExactPlugsOfRow.holds Try.pinned (OpenSpec.ofChange fnExactPlugsOfSpec)

/-- ITS FALSE NEIGHBOUR: 'it returns false'. Refute it at one input. -/
def fnExactPlugsOfWrong : ChangeSpec := { name := "fnExactPlugsOf", fn := fun _ => fun
  | [d1, d2] => { results := [.lit (.bool false)], args := [d1, d2] }
  | _ => none }
def FnExactPlugsOfWrongFalsely : Prop := fnExactPlugsOfRow.holds Try.pinned (OpenSpec.ofChange fnExactPlugsOfWrong)

/-- 'laws.FnExactPlugIn': WHATEVER THE INPUT: true; the input reads as it did. -/
def fnExactPlugInSpec : ChangeSpec := { name := "fnExactPlugIn", fn := fun _ => fun
  | [d1, d2, d3] => { results := [.lit (.bool true)], args := [d1, d2, d3] }
  | _ => none }
def fnExactPlugInRow : OpenClaim := { program := "ytnfjgepakfbcnaa", sum := "cfd3e69559f9ad40e2b28cddd5df7c74ebd56a2e9900ce50599da68a554c8d2c", func := "loop.example/channelboard/laws.FnExactPlugIn", spec := "fnExactPlugIn", apart := false }
def FnExactPlugInSaid : Prop := fnExactPlugInRow.holds Try.pinned (OpenSpec.ofChange fnExactPlugInSpec)

/-- ITS FALSE NEIGHBOUR: 'it returns false'. Refute it at one input. -/
def fnExactPlugInWrong : ChangeSpec := { name := "fnExactPlugIn", fn := fun _ => fun
  | [d1, d2, d3] => { results := [.lit (.bool false)], args := [d1, d2, d3] }
  | _ => none }
def FnExactPlugInWrongFalsely : Prop := fnExactPlugInRow.holds Try.pinned (OpenSpec.ofChange fnExactPlugInWrong)

/-- 'laws.FnExactMovePlugs': WHATEVER THE INPUT: true; the input reads as it did. -/
def fnExactMovePlugsSpec : ChangeSpec := { name := "fnExactMovePlugs", fn := fun _ => fun
  | [d1, d2, d3] => { results := [.lit (.bool true)], args := [d1, d2, d3] }
  | _ => none }
def fnExactMovePlugsRow : OpenClaim := { program := "ytnfjgepakfbcnaa", sum := "cfd3e69559f9ad40e2b28cddd5df7c74ebd56a2e9900ce50599da68a554c8d2c", func := "loop.example/channelboard/laws.FnExactMovePlugs", spec := "fnExactMovePlugs", apart := false }
def FnExactMovePlugsSaid : Prop := fnExactMovePlugsRow.holds Try.pinned (OpenSpec.ofChange fnExactMovePlugsSpec)

/-- ITS FALSE NEIGHBOUR: 'it returns false'. Refute it at one input. -/
def fnExactMovePlugsWrong : ChangeSpec := { name := "fnExactMovePlugs", fn := fun _ => fun
  | [d1, d2, d3] => { results := [.lit (.bool false)], args := [d1, d2, d3] }
  | _ => none }
def FnExactMovePlugsWrongFalsely : Prop := fnExactMovePlugsRow.holds Try.pinned (OpenSpec.ofChange fnExactMovePlugsWrong)

/-- 'laws.FnSameLine': WHATEVER THE INPUT: true; the input reads as it did. -/
def fnSameLineSpec : ChangeSpec := { name := "fnSameLine", fn := fun _ => fun
  | [d] => { results := [.lit (.bool true)], args := [d] }
  | _ => none }
def fnSameLineRow : OpenClaim := { program := "ytnfjgepakfbcnaa", sum := "cfd3e69559f9ad40e2b28cddd5df7c74ebd56a2e9900ce50599da68a554c8d2c", func := "loop.example/channelboard/laws.FnSameLine", spec := "fnSameLine", apart := false }
def FnSameLineSaid : Prop := fnSameLineRow.holds Try.pinned (OpenSpec.ofChange fnSameLineSpec)

/-- ITS FALSE NEIGHBOUR: 'it returns false'. Refute it at one input. -/
def fnSameLineWrong : ChangeSpec := { name := "fnSameLine", fn := fun _ => fun
  | [d] => { results := [.lit (.bool false)], args := [d] }
  | _ => none }
def FnSameLineWrongFalsely : Prop := fnSameLineRow.holds Try.pinned (OpenSpec.ofChange fnSameLineWrong)

/-- 'laws.FnExactFreeLines': WHATEVER THE INPUT: true; the input reads as it did. -/
def fnExactFreeLinesSpec : ChangeSpec := { name := "fnExactFreeLines", fn := fun _ => fun
  | [d1, d2] => { results := [.lit (.bool true)], args := [d1, d2] }
  | _ => none }
def fnExactFreeLinesRow : OpenClaim := { program := "ytnfjgepakfbcnaa", sum := "cfd3e69559f9ad40e2b28cddd5df7c74ebd56a2e9900ce50599da68a554c8d2c", func := "loop.example/channelboard/laws.FnExactFreeLines", spec := "fnExactFreeLines", apart := false }
def FnExactFreeLinesSaid : Prop := fnExactFreeLinesRow.holds Try.pinned (OpenSpec.ofChange fnExactFreeLinesSpec)

/-- ITS FALSE NEIGHBOUR: 'it returns false'. Refute it at one input. -/
def fnExactFreeLinesWrong : ChangeSpec := { name := "fnExactFreeLines", fn := fun _ => fun
  | [d1, d2] => { results := [.lit (.bool false)], args := [d1, d2] }
  | _ => none }
def FnExactFreeLinesWrongFalsely : Prop := fnExactFreeLinesRow.holds Try.pinned (OpenSpec.ofChange fnExactFreeLinesWrong)

/- THE SECOND FORM. 'bulk': how many values and letters a reading holds, each counted each time it is reached (what is shared counts as often as it is met; a slice's spare places count too). A statement '..UptoSaid' is the law's where the arguments, and the package variables that the reading takes, are together of bulk at most 1048576: NARROWER than '..Said'. Prove '..Said' where nothing that the law and all that it calls make is longer than what came in: it says more and counts as full. Else prove '..UptoSaid'. A law counts once. -/
mutual
def uptoBulk {H : Type} : DataW H → Nat
  | .lit (.string bytes) => bytes.length + 1
  | .lit _ => 1
  | .nil => 1
  | .ptr d => uptoBulk d + 1
  | .slice elems spare => uptoBulkAll elems + uptoBulkAll spare + 1
  | .agg parts => uptoBulkAll parts + 1
  | .iface _ d => uptoBulk d + 1
  | .map entries => uptoBulkEntries entries + 1
  | .held _ => 1
def uptoBulkAll {H : Type} : List (DataW H) → Nat
  | [] => 0
  | d :: r => uptoBulk d + uptoBulkAll r
def uptoBulkEntries {H : Type} : List (Lit × DataW H) → Nat
  | [] => 0
  | x :: r => uptoBulkEntry x + uptoBulkEntries r
def uptoBulkEntry {H : Type} : Lit × DataW H → Nat
  | (.string bytes, d) => bytes.length + uptoBulk d + 1
  | (_, d) => uptoBulk d + 1
 end
def uptoSmall : (H : Type) → List (DataW H) → Bool := fun _ ds => decide (uptoBulkAll ds ≤ 1048576)
def OpenSpec.upto (s : _root_.Go.ChangeSpec) : _root_.Go.OpenSpec := { _root_.Go.OpenSpec.ofChange s with cond := some uptoSmall }

/-- 'laws.FnExactSameLine', WHERE WHAT IT READS IS OF BULK AT MOST 1048576: true; the input reads as it did. -/
def fnExactSameLineUptoRow : OpenClaim := { program := "ytnfjgepakfbcnaa", sum := "cfd3e69559f9ad40e2b28cddd5df7c74ebd56a2e9900ce50599da68a554c8d2c", func := "loop.example/channelboard/laws.FnExactSameLine", spec := "fnExactSameLine", apart := false, narrowed := true }
def FnExactSameLineUptoSaid : Prop := fnExactSameLineUptoRow.holds Try.pinned (OpenSpec.upto fnExactSameLineSpec)

/-- 'laws.FnExactPlugsOf', WHERE WHAT IT READS IS OF BULK AT MOST 1048576: true; the input reads as it did. -/
def fnExactPlugsOfUptoRow : OpenClaim := { program := "ytnfjgepakfbcnaa", sum := "cfd3e69559f9ad40e2b28cddd5df7c74ebd56a2e9900ce50599da68a554c8d2c", func := "loop.example/channelboard/laws.FnExactPlugsOf", spec := "fnExactPlugsOf", apart := false, narrowed := true }
def FnExactPlugsOfUptoSaid : Prop := fnExactPlugsOfUptoRow.holds Try.pinned (OpenSpec.upto fnExactPlugsOfSpec)

/-- 'laws.FnExactPlugIn', WHERE WHAT IT READS IS OF BULK AT MOST 1048576: true; the input reads as it did. -/
def fnExactPlugInUptoRow : OpenClaim := { program := "ytnfjgepakfbcnaa", sum := "cfd3e69559f9ad40e2b28cddd5df7c74ebd56a2e9900ce50599da68a554c8d2c", func := "loop.example/channelboard/laws.FnExactPlugIn", spec := "fnExactPlugIn", apart := false, narrowed := true }
def FnExactPlugInUptoSaid : Prop := fnExactPlugInUptoRow.holds Try.pinned (OpenSpec.upto fnExactPlugInSpec)

/-- 'laws.FnExactMovePlugs', WHERE WHAT IT READS IS OF BULK AT MOST 1048576: true; the input reads as it did. -/
def fnExactMovePlugsUptoRow : OpenClaim := { program := "ytnfjgepakfbcnaa", sum := "cfd3e69559f9ad40e2b28cddd5df7c74ebd56a2e9900ce50599da68a554c8d2c", func := "loop.example/channelboard/laws.FnExactMovePlugs", spec := "fnExactMovePlugs", apart := false, narrowed := true }
def FnExactMovePlugsUptoSaid : Prop := fnExactMovePlugsUptoRow.holds Try.pinned (OpenSpec.upto fnExactMovePlugsSpec)

/-- 'laws.FnSameLine', WHERE WHAT IT READS IS OF BULK AT MOST 1048576: true; the input reads as it did. -/
def fnSameLineUptoRow : OpenClaim := { program := "ytnfjgepakfbcnaa", sum := "cfd3e69559f9ad40e2b28cddd5df7c74ebd56a2e9900ce50599da68a554c8d2c", func := "loop.example/channelboard/laws.FnSameLine", spec := "fnSameLine", apart := false, narrowed := true }
def FnSameLineUptoSaid : Prop := fnSameLineUptoRow.holds Try.pinned (OpenSpec.upto fnSameLineSpec)

/-- 'laws.FnExactFreeLines', WHERE WHAT IT READS IS OF BULK AT MOST 1048576: true; the input reads as it did. -/
def fnExactFreeLinesUptoRow : OpenClaim := { program := "ytnfjgepakfbcnaa", sum := "cfd3e69559f9ad40e2b28cddd5df7c74ebd56a2e9900ce50599da68a554c8d2c", func := "loop.example/channelboard/laws.FnExactFreeLines", spec := "fnExactFreeLines", apart := false, narrowed := true }
def FnExactFreeLinesUptoSaid : Prop := fnExactFreeLinesUptoRow.holds Try.pinned (OpenSpec.upto fnExactFreeLinesSpec)

end Rows
end Go.Proofs.Ytnfjgepakfbcnaa
