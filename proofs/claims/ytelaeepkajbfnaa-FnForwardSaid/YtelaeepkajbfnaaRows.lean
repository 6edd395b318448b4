/-
  No cell of these rows narrows 'for every input' (looked for: loops, veiled, ifaces, maps, wideKeys, modest, calm, conditions, laid).
  DERIVED. THE GIVEN ROWS OF THIS SEAT. 6 by the template 'for every input the law returns true; each argument reads behind the call as it read before'; 0 by the template 'total and deterministic' (their statements: YtelaeepkajbfnaaTotals.lean).
  GIVEN WITH THE SEED: the statements are not yours to turn. If you find one false, say at which input.
  Laid BY PROGRAM, IN A SANDBOX (cutbox-rows.mjs): the forced cells as the released guide's own fill.sh prints them over the translation 7d128efabacb8e45… (all of the seat's roots in one cut). By AI agents, Wed Nov 11 2026. No macro, syntax, notation, axiom, sorry.
-/
import Derived.Test.YtelaeepkajbfnaaChecked
import GoSem.Claim
import GoSem.ClaimJoined
import GoSem.ClaimMapViews
import Derived.JoinedTies
import Derived.KernelRfl
namespace Go.Proofs.Ytelaeepkajbfnaa
/- THE CELL 'sum', in the pinned program and in every row, IS THE sha256 OF THE DUMP (.gsa) THAT YtelaeepkajbfnaaProg.lean LOADS. Nothing in Lean hashes anything: it is a label: what it is worth is what the hold of that sum in a sandbox is worth. -/
noncomputable def Try.pinned : Pinned := { name := "ytelaeepkajbfnaa", sum := "7d128efabacb8e45bfbd07ce3d0360cd0c86dc799af407c063fae0d94fadb611", checked := Try.checked }
namespace Rows
def none {H : Type} : Left H := { results := [], args := [] }

/-- 'laws.FnExactRulesValid': WHATEVER THE INPUT: true; the input reads as it did. -/
def fnExactRulesValidSpec : ChangeSpec := { name := "fnExactRulesValid", fn := fun _ => fun
  | [d] => { results := [.lit (.bool true)], args := [d] }
  | _ => none }
def fnExactRulesValidRow : OpenClaim := { program := "ytelaeepkajbfnaa", sum := "7d128efabacb8e45bfbd07ce3d0360cd0c86dc799af407c063fae0d94fadb611", func := "loop.example/channelboard/laws.FnExactRulesValid", spec := "fnExactRulesValid", apart := false }
def FnExactRulesValidSaid : Prop := fnExactRulesValidRow.holds Try.pinned (OpenSpec.ofChange fnExactRulesValidSpec)

/-- ITS FALSE NEIGHBOUR: 'it returns false'. Refute it at one input. -/
def fnExactRulesValidWrong : ChangeSpec := { name := "fnExactRulesValid", fn := fun _ => fun
  | [d] => { results := [.lit (.bool false)], args := [d] }
  | _ => none }
def FnExactRulesValidWrongFalsely : Prop := fnExactRulesValidRow.holds Try.pinned (OpenSpec.ofChange fnExactRulesValidWrong)

/-- 'laws.FnExactForwardLine': WHATEVER THE INPUT: true; the input reads as it did. -/
def fnExactForwardLineSpec : ChangeSpec := { name := "fnExactForwardLine", fn := fun _ => fun
  | [d1, d2] => { results := [.lit (.bool true)], args := [d1, d2] }
  | _ => none }
def fnExactForwardLineRow : OpenClaim := { program := "ytelaeepkajbfnaa", sum := "7d128efabacb8e45bfbd07ce3d0360cd0c86dc799af407c063fae0d94fadb611", func := "loop.example/channelboard/laws.FnExactForwardLine", spec := "fnExactForwardLine", apart := false }
def FnExactForwardLineSaid : Prop := fnExactForwardLineRow.holds Try.pinned (OpenSpec.ofChange fnExactForwardLineSpec)

/-- ITS FALSE NEIGHBOUR: 'it returns false'. Refute it at one input. -/
def fnExactForwardLineWrong : ChangeSpec := { name := "fnExactForwardLine", fn := fun _ => fun
  | [d1, d2] => { results := [.lit (.bool false)], args := [d1, d2] }
  | _ => none }
def FnExactForwardLineWrongFalsely : Prop := fnExactForwardLineRow.holds Try.pinned (OpenSpec.ofChange fnExactForwardLineWrong)

/-- 'laws.FnExactRingLines': WHATEVER THE INPUT: true; the input reads as it did. -/
def fnExactRingLinesSpec : ChangeSpec := { name := "fnExactRingLines", fn := fun _ => fun
  | [d] => { results := [.lit (.bool true)], args := [d] }
  | _ => none }
def fnExactRingLinesRow : OpenClaim := { program := "ytelaeepkajbfnaa", sum := "7d128efabacb8e45bfbd07ce3d0360cd0c86dc799af407c063fae0d94fadb611", func := "loop.example/channelboard/laws.FnExactRingLines", spec := "fnExactRingLines", apart := false }
def FnExactRingLinesSaid : Prop := fnExactRingLinesRow.holds Try.pinned (OpenSpec.ofChange fnExactRingLinesSpec)

/-- ITS FALSE NEIGHBOUR: 'it returns false'. Refute it at one input. -/
def fnExactRingLinesWrong : ChangeSpec := { name := "fnExactRingLines", fn := fun _ => fun
  | [d] => { results := [.lit (.bool false)], args := [d] }
  | _ => none }
def FnExactRingLinesWrongFalsely : Prop := fnExactRingLinesRow.holds Try.pinned (OpenSpec.ofChange fnExactRingLinesWrong)

/-- 'laws.FnExactForwardField': WHATEVER THE INPUT: true; the input reads as it did. -/
def fnExactForwardFieldSpec : ChangeSpec := { name := "fnExactForwardField", fn := fun _ => fun
  | [d1, d2] => { results := [.lit (.bool true)], args := [d1, d2] }
  | _ => none }
def fnExactForwardFieldRow : OpenClaim := { program := "ytelaeepkajbfnaa", sum := "7d128efabacb8e45bfbd07ce3d0360cd0c86dc799af407c063fae0d94fadb611", func := "loop.example/channelboard/laws.FnExactForwardField", spec := "fnExactForwardField", apart := false }
def FnExactForwardFieldSaid : Prop := fnExactForwardFieldRow.holds Try.pinned (OpenSpec.ofChange fnExactForwardFieldSpec)

/-- ITS FALSE NEIGHBOUR: 'it returns false'. Refute it at one input. -/
def fnExactForwardFieldWrong : ChangeSpec := { name := "fnExactForwardField", fn := fun _ => fun
  | [d1, d2] => { results := [.lit (.bool false)], args := [d1, d2] }
  | _ => none }
def FnExactForwardFieldWrongFalsely : Prop := fnExactForwardFieldRow.holds Try.pinned (OpenSpec.ofChange fnExactForwardFieldWrong)

/-- 'laws.FnForward': WHATEVER THE INPUT: true; the input reads as it did. -/
def fnForwardSpec : ChangeSpec := { name := "fnForward", fn := fun _ => fun
  | [d] => { results := [.lit (.bool true)], args := [d] }
  | _ => none }
def fnForwardRow : OpenClaim := { program := "ytelaeepkajbfnaa", sum := "7d128efabacb8e45bfbd07ce3d0360cd0c86dc799af407c063fae0d94fadb611", func := "loop.example/channelboard/laws.FnForward", spec := "fnForward", apart := false }
def FnForwardSaid : Prop := fnForwardRow.holds Try.pinned (OpenSpec.ofChange fnForwardSpec)

/-- ITS FALSE NEIGHBOUR: 'it returns false'. Refute it at one input. -/
def fnForwardWrong : ChangeSpec := { name := "fnForward", fn := fun _ => fun
  | [d] => { results := [.lit (.bool false)], args := [d] }
  | _ => none }
def FnForwardWrongFalsely : Prop := fnForwardRow.holds Try.pinned (OpenSpec.ofChange fnForwardWrong)

/-- 'laws.FnForwardField': WHATEVER THE INPUT: true; the input reads as it did. -/
def fnForwardFieldSpec : ChangeSpec := { name := "fnForwardField", fn := fun _ => fun
  | [d] => { results := [.lit (.bool true)], args := [d] }
  | _ => none }
def fnForwardFieldRow : OpenClaim := { program := "ytelaeepkajbfnaa", sum := "7d128efabacb8e45bfbd07ce3d0360cd0c86dc799af407c063fae0d94fadb611", func := "loop.example/channelboard/laws.FnForwardField", spec := "fnForwardField", apart := false }
def FnForwardFieldSaid : Prop := fnForwardFieldRow.holds Try.pinned (OpenSpec.ofChange fnForwardFieldSpec)

/-- ITS FALSE NEIGHBOUR: 'it returns false'. Refute it at one input. -/
def fnForwardFieldWrong : ChangeSpec := { name := "fnForwardField", fn := fun _ => fun
  | [d] => { results := [.lit (.bool false)], args := [d] }
  | _ => none }
def FnForwardFieldWrongFalsely : Prop := fnForwardFieldRow.holds Try.pinned (OpenSpec.ofChange fnForwardFieldWrong)

/- THE SECOND FORM. 'bulk': how many values and letters a reading holds, each counted each time it is reached (what is shared counts as often as it is met; a slice's spare places count too). A statement '..UptoSaid' is the law's where the arguments, and the package variables that the reading takes, are together of bulk at most 1048576: NARROWER than '..Said'. Prove '..Said' where nothing that the law and all that it calls make is longer than what came in: it says more and counts as full. Else prove '..UptoSaid'. A law counts once. -/
mutual
def uptoBulk {H : Type} : DataW H → Nat
  | .lit (.string bytes) => bytes.length + 1
  | .lit _ => 1
  | .nil => 1
  | .ptr d => uptoBulk d + 1
  | .slice elems spare => uptoBulkAll elems + uptoBulkAll spare + 1
  | .agg parts => uptoBulkAll parts + 1
  | .iface _ d => uptoBulk d + 1
  | .map entries => uptoBulkEntries entries + 1
  | .held _ => 1
def uptoBulkAll {H : Type} : List (DataW H) → Nat
  | [] => 0
  | d :: r => uptoBulk d + uptoBulkAll r
def uptoBulkEntries {H : Type} : List (Lit × DataW H) → Nat
  | [] => 0
  | x :: r => uptoBulkEntry x + uptoBulkEntries r
def uptoBulkEntry {H : Type} : Lit × DataW H → Nat
  | (.string bytes, d) => bytes.length + uptoBulk d + 1
  | (_, d) => uptoBulk d + 1
 end
def uptoSmall : (H : Type) → List (DataW H) → Bool := fun _ ds => decide (uptoBulkAll ds ≤ 1048576)
def OpenSpec.upto (s : _root_.Go.ChangeSpec) : _root_.Go.OpenSpec := { _root_.Go.OpenSpec.ofChange s with cond := some uptoSmall }

/-- 'laws.FnExactRulesValid', WHERE WHAT IT READS IS OF BULK AT MOST 1048576: true; the input reads as it did. -/
def fnExactRulesValidUptoRow : OpenClaim := { program := "ytelaeepkajbfnaa", sum := "7d128efabacb8e45bfbd07ce3d0360cd0c86dc799af407c063fae0d94fadb611", func := "loop.example/channelboard/laws.FnExactRulesValid", spec := "fnExactRulesValid", apart := false, narrowed := true }
def FnExactRulesValidUptoSaid : Prop := fnExactRulesValidUptoRow.holds Try.pinned (OpenSpec.upto fnExactRulesValidSpec)

/-- 'laws.FnExactForwardLine', WHERE WHAT IT READS IS OF BULK AT MOST 1048576: true; the input reads as it did. -/
def fnExactForwardLineUptoRow : OpenClaim := { program := "ytelaeepkajbfnaa", sum := "7d128efabacb8e45bfbd07ce3d0360cd0c86dc799af407c063fae0d94fadb611", func := "loop.example/channelboard/laws.FnExactForwardLine", spec := "fnExactForwardLine", apart := false, narrowed := true }
def FnExactForwardLineUptoSaid : Prop := fnExactForwardLineUptoRow.holds Try.pinned (OpenSpec.upto fnExactForwardLineSpec)

/-- 'laws.FnExactRingLines', WHERE WHAT IT READS IS OF BULK AT MOST 1048576: true; the input reads as it did. -/
def fnExactRingLinesUptoRow : OpenClaim := { program := "ytelaeepkajbfnaa", sum := "7d128efabacb8e45bfbd07ce3d0360cd0c86dc799af407c063fae0d94fadb611", func := "loop.example/channelboard/laws.FnExactRingLines", spec := "fnExactRingLines", apart := false, narrowed := true }
def FnExactRingLinesUptoSaid : Prop := fnExactRingLinesUptoRow.holds Try.pinned (OpenSpec.upto fnExactRingLinesSpec)

/-- 'laws.FnExactForwardField', WHERE WHAT IT READS IS OF BULK AT MOST 1048576: true; the input reads as it did. -/
def fnExactForwardFieldUptoRow : OpenClaim := { program := "ytelaeepkajbfnaa", sum := "7d128efabacb8e45bfbd07ce3d0360cd0c86dc799af407c063fae0d94fadb611", func := "loop.example/channelboard/laws.FnExactForwardField", spec := "fnExactForwardField", apart := false, narrowed := true }
def FnExactForwardFieldUptoSaid : Prop := fnExactForwardFieldUptoRow.holds Try.pinned (OpenSpec.upto fnExactForwardFieldSpec)

/-- 'laws.FnForward', WHERE WHAT IT READS IS OF BULK AT MOST 1048576: true; the input reads as it did. -/
def fnForwardUptoRow : OpenClaim := { program := "ytelaeepkajbfnaa", sum := "7d128efabacb8e45bfbd07ce3d0360cd0c86dc799af407c063fae0d94fadb611", func := "loop.example/channelboard/laws.FnForward", spec := "fnForward", apart := false, narrowed := true }
def FnForwardUptoSaid : Prop := fnForwardUptoRow.holds Try.pinned (OpenSpec.upto fnForwardSpec)

/-- 'laws.FnForwardField', WHERE WHAT IT READS IS OF BULK AT MOST 1048576: true; the input reads as it did. -/
def fnForwardFieldUptoRow : OpenClaim := { program := "ytelaeepkajbfnaa", sum := "7d128efabacb8e45bfbd07ce3d0360cd0c86dc799af407c063fae0d94fadb611", func := "loop.example/channelboard/laws.FnForwardField", spec := "fnForwardField", apart := false, narrowed := true }
def FnForwardFieldUptoSaid : Prop := fnForwardFieldUptoRow.holds Try.pinned (OpenSpec.upto fnForwardFieldSpec)

end Rows
end Go.Proofs.Ytelaeepkajbfnaa
