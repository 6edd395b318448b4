/-
  No cell of these rows narrows 'for every input' (looked for: loops, veiled, ifaces, maps, wideKeys, modest, calm, conditions, laid).
  DERIVED. THE GIVEN ROWS OF THIS SEAT. 7 by the template 'for every input the law returns true; each argument reads behind the call as it read before'; 0 by the template 'total and deterministic' (their statements: YthmgpkcijolljaaTotals.lean).
  GIVEN WITH THE SEED: the statements are not yours to turn. If you find one false, say at which input.
  Laid BY PROGRAM, IN A SANDBOX (cutbox-rows.mjs): the forced cells as the released guide's own fill.sh prints them over the translation a8a54fc583c60c1a… (all of the seat's roots in one cut). By AI agents, Wed Nov 11 2026. No macro, syntax, notation, axiom, sorry.
-/
import Derived.Test.YthmgpkcijolljaaChecked
import GoSem.Claim
import GoSem.ClaimJoined
import GoSem.ClaimMapViews
import Derived.JoinedTies
import Derived.KernelRfl
namespace Go.Proofs.Ythmgpkcijolljaa
/- THE CELL 'sum', in the pinned program and in every row, IS THE sha256 OF THE DUMP (.gsa) THAT YthmgpkcijolljaaProg.lean LOADS. Nothing in Lean hashes anything: it is a label: what it is worth is what the hold of that sum in a sandbox is worth. -/
noncomputable def Try.pinned : Pinned := { name := "ythmgpkcijolljaa", sum := "a8a54fc583c60c1ac57f9b16a10956af379167c02d904f03f6cddd5a7ae2333c", checked := Try.checked }
namespace Rows
def none {H : Type} : Left H := { results := [], args := [] }

/-- 'laws.FnExactCountHeard': WHATEVER THE INPUT: true; the input reads as it did. -/
def fnExactCountHeardSpec : ChangeSpec := { name := "fnExactCountHeard", fn := fun _ => fun
  | [d1, d2] => { results := [.lit (.bool true)], args := [d1, d2] }
  | _ => none }
def fnExactCountHeardRow : OpenClaim := { program := "ythmgpkcijolljaa", sum := "a8a54fc583c60c1ac57f9b16a10956af379167c02d904f03f6cddd5a7ae2333c", func := "loop.example/channelboard/laws.FnExactCountHeard", spec := "fnExactCountHeard", inPlace := ["(*sync.WaitGroup).Add", "internal/race.ReleaseMerge", "internal/race.Disable", "internal/race.Enable", "internal/synctest.IsInBubble", "internal/synctest.Associate[sync.WaitGroup]", "sync.fatal", "sync/atomic.OrUint64", "sync/atomic.AddUint64", "internal/race.Read", "sync/atomic.LoadUint64", "sync/atomic.StoreUint64", "internal/synctest.Disassociate[sync.WaitGroup]", "sync.runtime_Semrelease", "(*sync.WaitGroup).Done", "(*sync.WaitGroup).Wait", "internal/race.Acquire", "internal/synctest.IsAssociated[sync.WaitGroup]", "sync/atomic.CompareAndSwapUint64", "internal/race.Write", "sync.runtime_SemacquireWaitGroup"], unfollowed := true, recurses := true, leaving := true, apart := false }
def FnExactCountHeardSaid : Prop := fnExactCountHeardRow.holds Try.pinned (OpenSpec.ofChange fnExactCountHeardSpec)

/-- ITS FALSE NEIGHBOUR: 'it returns false'. Refute it at one input. -/
def fnExactCountHeardWrong : ChangeSpec := { name := "fnExactCountHeard", fn := fun _ => fun
  | [d1, d2] => { results := [.lit (.bool false)], args := [d1, d2] }
  | _ => none }
def FnExactCountHeardWrongFalsely : Prop := fnExactCountHeardRow.holds Try.pinned (OpenSpec.ofChange fnExactCountHeardWrong)

/-- 'laws.FnCompany': WHATEVER THE INPUT: true; the input reads as it did. -/
def fnCompanySpec : ChangeSpec := { name := "fnCompany", fn := fun _ => fun
  | [d] => { results := [.lit (.bool true)], args := [d] }
  | _ => none }
def fnCompanyRow : OpenClaim := { program := "ythmgpkcijolljaa", sum := "a8a54fc583c60c1ac57f9b16a10956af379167c02d904f03f6cddd5a7ae2333c", func := "loop.example/channelboard/laws.FnCompany", spec := "fnCompany", inPlace := ["(*sync.WaitGroup).Add", "internal/race.ReleaseMerge", "internal/race.Disable", "internal/race.Enable", "internal/synctest.IsInBubble", "internal/synctest.Associate[sync.WaitGroup]", "sync.fatal", "sync/atomic.OrUint64", "sync/atomic.AddUint64", "internal/race.Read", "sync/atomic.LoadUint64", "sync/atomic.StoreUint64", "internal/synctest.Disassociate[sync.WaitGroup]", "sync.runtime_Semrelease", "(*sync.WaitGroup).Done", "(*sync.WaitGroup).Wait", "internal/race.Acquire", "internal/synctest.IsAssociated[sync.WaitGroup]", "sync/atomic.CompareAndSwapUint64", "internal/race.Write", "sync.runtime_SemacquireWaitGroup"], unfollowed := true, recurses := true, leaving := true, apart := false }
def FnCompanySaid : Prop := fnCompanyRow.holds Try.pinned (OpenSpec.ofChange fnCompanySpec)

/-- ITS FALSE NEIGHBOUR: 'it returns false'. Refute it at one input. -/
def fnCompanyWrong : ChangeSpec := { name := "fnCompany", fn := fun _ => fun
  | [d] => { results := [.lit (.bool false)], args := [d] }
  | _ => none }
def FnCompanyWrongFalsely : Prop := fnCompanyRow.holds Try.pinned (OpenSpec.ofChange fnCompanyWrong)

/-- 'laws.FnSaidAlone': WHATEVER THE INPUT: true; the input reads as it did. -/
def fnSaidAloneSpec : ChangeSpec := { name := "fnSaidAlone", fn := fun _ => fun
  | [d] => { results := [.lit (.bool true)], args := [d] }
  | _ => none }
def fnSaidAloneRow : OpenClaim := { program := "ythmgpkcijolljaa", sum := "a8a54fc583c60c1ac57f9b16a10956af379167c02d904f03f6cddd5a7ae2333c", func := "loop.example/channelboard/laws.FnSaidAlone", spec := "fnSaidAlone", inPlace := ["(*sync.WaitGroup).Add", "internal/race.ReleaseMerge", "internal/race.Disable", "internal/race.Enable", "internal/synctest.IsInBubble", "internal/synctest.Associate[sync.WaitGroup]", "sync.fatal", "sync/atomic.OrUint64", "sync/atomic.AddUint64", "internal/race.Read", "sync/atomic.LoadUint64", "sync/atomic.StoreUint64", "internal/synctest.Disassociate[sync.WaitGroup]", "sync.runtime_Semrelease", "(*sync.WaitGroup).Done", "(*sync.WaitGroup).Wait", "internal/race.Acquire", "internal/synctest.IsAssociated[sync.WaitGroup]", "sync/atomic.CompareAndSwapUint64", "internal/race.Write", "sync.runtime_SemacquireWaitGroup"], unfollowed := true, recurses := true, leaving := true, apart := false }
def FnSaidAloneSaid : Prop := fnSaidAloneRow.holds Try.pinned (OpenSpec.ofChange fnSaidAloneSpec)

/-- ITS FALSE NEIGHBOUR: 'it returns false'. Refute it at one input. -/
def fnSaidAloneWrong : ChangeSpec := { name := "fnSaidAlone", fn := fun _ => fun
  | [d] => { results := [.lit (.bool false)], args := [d] }
  | _ => none }
def FnSaidAloneWrongFalsely : Prop := fnSaidAloneRow.holds Try.pinned (OpenSpec.ofChange fnSaidAloneWrong)

/-- 'laws.FnExactSaidAlone': WHATEVER THE INPUT: true; the input reads as it did. -/
def fnExactSaidAloneSpec : ChangeSpec := { name := "fnExactSaidAlone", fn := fun _ => fun
  | [d1, d2] => { results := [.lit (.bool true)], args := [d1, d2] }
  | _ => none }
def fnExactSaidAloneRow : OpenClaim := { program := "ythmgpkcijolljaa", sum := "a8a54fc583c60c1ac57f9b16a10956af379167c02d904f03f6cddd5a7ae2333c", func := "loop.example/channelboard/laws.FnExactSaidAlone", spec := "fnExactSaidAlone", inPlace := ["(*sync.WaitGroup).Add", "internal/race.ReleaseMerge", "internal/race.Disable", "internal/race.Enable", "internal/synctest.IsInBubble", "internal/synctest.Associate[sync.WaitGroup]", "sync.fatal", "sync/atomic.OrUint64", "sync/atomic.AddUint64", "internal/race.Read", "sync/atomic.LoadUint64", "sync/atomic.StoreUint64", "internal/synctest.Disassociate[sync.WaitGroup]", "sync.runtime_Semrelease", "(*sync.WaitGroup).Done", "(*sync.WaitGroup).Wait", "internal/race.Acquire", "internal/synctest.IsAssociated[sync.WaitGroup]", "sync/atomic.CompareAndSwapUint64", "internal/race.Write", "sync.runtime_SemacquireWaitGroup"], unfollowed := true, recurses := true, leaving := true, apart := false }
def FnExactSaidAloneSaid : Prop := fnExactSaidAloneRow.holds Try.pinned (OpenSpec.ofChange fnExactSaidAloneSpec)

/-- ITS FALSE NEIGHBOUR: 'it returns false'. Refute it at one input. -/
def fnExactSaidAloneWrong : ChangeSpec := { name := "fnExactSaidAlone", fn := fun _ => fun
  | [d1, d2] => { results := [.lit (.bool false)], args := [d1, d2] }
  | _ => none }
def FnExactSaidAloneWrongFalsely : Prop := fnExactSaidAloneRow.holds Try.pinned (OpenSpec.ofChange fnExactSaidAloneWrong)

/-- 'laws.FnExactBridgesAfter': WHATEVER THE INPUT: true; the input reads as it did. -/
def fnExactBridgesAfterSpec : ChangeSpec := { name := "fnExactBridgesAfter", fn := fun _ => fun
  | [d1, d2] => { results := [.lit (.bool true)], args := [d1, d2] }
  | _ => none }
def fnExactBridgesAfterRow : OpenClaim := { program := "ythmgpkcijolljaa", sum := "a8a54fc583c60c1ac57f9b16a10956af379167c02d904f03f6cddd5a7ae2333c", func := "loop.example/channelboard/laws.FnExactBridgesAfter", spec := "fnExactBridgesAfter", inPlace := ["(*sync.WaitGroup).Add", "internal/race.ReleaseMerge", "internal/race.Disable", "internal/race.Enable", "internal/synctest.IsInBubble", "internal/synctest.Associate[sync.WaitGroup]", "sync.fatal", "sync/atomic.OrUint64", "sync/atomic.AddUint64", "internal/race.Read", "sync/atomic.LoadUint64", "sync/atomic.StoreUint64", "internal/synctest.Disassociate[sync.WaitGroup]", "sync.runtime_Semrelease", "(*sync.WaitGroup).Done", "(*sync.WaitGroup).Wait", "internal/race.Acquire", "internal/synctest.IsAssociated[sync.WaitGroup]", "sync/atomic.CompareAndSwapUint64", "internal/race.Write", "sync.runtime_SemacquireWaitGroup"], unfollowed := true, recurses := true, leaving := true, apart := false }
def FnExactBridgesAfterSaid : Prop := fnExactBridgesAfterRow.holds Try.pinned (OpenSpec.ofChange fnExactBridgesAfterSpec)

/-- ITS FALSE NEIGHBOUR: 'it returns false'. Refute it at one input. -/
def fnExactBridgesAfterWrong : ChangeSpec := { name := "fnExactBridgesAfter", fn := fun _ => fun
  | [d1, d2] => { results := [.lit (.bool false)], args := [d1, d2] }
  | _ => none }
def FnExactBridgesAfterWrongFalsely : Prop := fnExactBridgesAfterRow.holds Try.pinned (OpenSpec.ofChange fnExactBridgesAfterWrong)

/-- 'laws.FnHeardBy': WHATEVER THE INPUT: true; the input reads as it did. -/
def fnHeardBySpec : ChangeSpec := { name := "fnHeardBy", fn := fun _ => fun
  | [d] => { results := [.lit (.bool true)], args := [d] }
  | _ => none }
def fnHeardByRow : OpenClaim := { program := "ythmgpkcijolljaa", sum := "a8a54fc583c60c1ac57f9b16a10956af379167c02d904f03f6cddd5a7ae2333c", func := "loop.example/channelboard/laws.FnHeardBy", spec := "fnHeardBy", inPlace := ["(*sync.WaitGroup).Add", "internal/race.ReleaseMerge", "internal/race.Disable", "internal/race.Enable", "internal/synctest.IsInBubble", "internal/synctest.Associate[sync.WaitGroup]", "sync.fatal", "sync/atomic.OrUint64", "sync/atomic.AddUint64", "internal/race.Read", "sync/atomic.LoadUint64", "sync/atomic.StoreUint64", "internal/synctest.Disassociate[sync.WaitGroup]", "sync.runtime_Semrelease", "(*sync.WaitGroup).Done", "(*sync.WaitGroup).Wait", "internal/race.Acquire", "internal/synctest.IsAssociated[sync.WaitGroup]", "sync/atomic.CompareAndSwapUint64", "internal/race.Write", "sync.runtime_SemacquireWaitGroup"], unfollowed := true, recurses := true, leaving := true, apart := false }
def FnHeardBySaid : Prop := fnHeardByRow.holds Try.pinned (OpenSpec.ofChange fnHeardBySpec)

/-- ITS FALSE NEIGHBOUR: 'it returns false'. Refute it at one input. -/
def fnHeardByWrong : ChangeSpec := { name := "fnHeardBy", fn := fun _ => fun
  | [d] => { results := [.lit (.bool false)], args := [d] }
  | _ => none }
def FnHeardByWrongFalsely : Prop := fnHeardByRow.holds Try.pinned (OpenSpec.ofChange fnHeardByWrong)

/-- 'laws.FnExactCompanyOf': WHATEVER THE INPUT: true; the input reads as it did. -/
def fnExactCompanyOfSpec : ChangeSpec := { name := "fnExactCompanyOf", fn := fun _ => fun
  | [d1, d2, d3] => { results := [.lit (.bool true)], args := [d1, d2, d3] }
  | _ => none }
def fnExactCompanyOfRow : OpenClaim := { program := "ythmgpkcijolljaa", sum := "a8a54fc583c60c1ac57f9b16a10956af379167c02d904f03f6cddd5a7ae2333c", func := "loop.example/channelboard/laws.FnExactCompanyOf", spec := "fnExactCompanyOf", inPlace := ["(*sync.WaitGroup).Add", "internal/race.ReleaseMerge", "internal/race.Disable", "internal/race.Enable", "internal/synctest.IsInBubble", "internal/synctest.Associate[sync.WaitGroup]", "sync.fatal", "sync/atomic.OrUint64", "sync/atomic.AddUint64", "internal/race.Read", "sync/atomic.LoadUint64", "sync/atomic.StoreUint64", "internal/synctest.Disassociate[sync.WaitGroup]", "sync.runtime_Semrelease", "(*sync.WaitGroup).Done", "(*sync.WaitGroup).Wait", "internal/race.Acquire", "internal/synctest.IsAssociated[sync.WaitGroup]", "sync/atomic.CompareAndSwapUint64", "internal/race.Write", "sync.runtime_SemacquireWaitGroup"], unfollowed := true, recurses := true, leaving := true, apart := false }
def FnExactCompanyOfSaid : Prop := fnExactCompanyOfRow.holds Try.pinned (OpenSpec.ofChange fnExactCompanyOfSpec)

/-- ITS FALSE NEIGHBOUR: 'it returns false'. Refute it at one input. -/
def fnExactCompanyOfWrong : ChangeSpec := { name := "fnExactCompanyOf", fn := fun _ => fun
  | [d1, d2, d3] => { results := [.lit (.bool false)], args := [d1, d2, d3] }
  | _ => none }
def FnExactCompanyOfWrongFalsely : Prop := fnExactCompanyOfRow.holds Try.pinned (OpenSpec.ofChange fnExactCompanyOfWrong)

/- THE SECOND FORM. 'bulk': how many values and letters a reading holds, each counted each time it is reached (what is shared counts as often as it is met; a slice's spare places count too). A statement '..UptoSaid' is the law's where the arguments, and the package variables that the reading takes, are together of bulk at most 1048576: NARROWER than '..Said'. Prove '..Said' where nothing that the law and all that it calls make is longer than what came in: it says more and counts as full. Else prove '..UptoSaid'. A law counts once. -/
mutual
def uptoBulk {H : Type} : DataW H → Nat
  | .lit (.string bytes) => bytes.length + 1
  | .lit _ => 1
  | .nil => 1
  | .ptr d => uptoBulk d + 1
  | .slice elems spare => uptoBulkAll elems + uptoBulkAll spare + 1
  | .agg parts => uptoBulkAll parts + 1
  | .iface _ d => uptoBulk d + 1
  | .map entries => uptoBulkEntries entries + 1
  | .held _ => 1
def uptoBulkAll {H : Type} : List (DataW H) → Nat
  | [] => 0
  | d :: r => uptoBulk d + uptoBulkAll r
def uptoBulkEntries {H : Type} : List (Lit × DataW H) → Nat
  | [] => 0
  | x :: r => uptoBulkEntry x + uptoBulkEntries r
def uptoBulkEntry {H : Type} : Lit × DataW H → Nat
  | (.string bytes, d) => bytes.length + uptoBulk d + 1
  | (_, d) => uptoBulk d + 1
 end
def uptoSmall : (H : Type) → List (DataW H) → Bool := fun _ ds => decide (uptoBulkAll ds ≤ 1048576)
def OpenSpec.upto (s : _root_.Go.ChangeSpec) : _root_.Go.OpenSpec := { _root_.Go.OpenSpec.ofChange s with cond := some uptoSmall }

/-- 'laws.FnExactCountHeard', WHERE WHAT IT READS IS OF BULK AT MOST 1048576: true; the input reads as it did. -/
def fnExactCountHeardUptoRow : OpenClaim := { program := "ythmgpkcijolljaa", sum := "a8a54fc583c60c1ac57f9b16a10956af379167c02d904f03f6cddd5a7ae2333c", func := "loop.example/channelboard/laws.FnExactCountHeard", spec := "fnExactCountHeard", inPlace := ["(*sync.WaitGroup).Add", "internal/race.ReleaseMerge", "internal/race.Disable", "internal/race.Enable", "internal/synctest.IsInBubble", "internal/synctest.Associate[sync.WaitGroup]", "sync.fatal", "sync/atomic.OrUint64", "sync/atomic.AddUint64", "internal/race.Read", "sync/atomic.LoadUint64", "sync/atomic.StoreUint64", "internal/synctest.Disassociate[sync.WaitGroup]", "sync.runtime_Semrelease", "(*sync.WaitGroup).Done", "(*sync.WaitGroup).Wait", "internal/race.Acquire", "internal/synctest.IsAssociated[sync.WaitGroup]", "sync/atomic.CompareAndSwapUint64", "internal/race.Write", "sync.runtime_SemacquireWaitGroup"], unfollowed := true, recurses := true, leaving := true, apart := false, narrowed := true }
def FnExactCountHeardUptoSaid : Prop := fnExactCountHeardUptoRow.holds Try.pinned (OpenSpec.upto fnExactCountHeardSpec)

/-- 'laws.FnCompany', WHERE WHAT IT READS IS OF BULK AT MOST 1048576: true; the input reads as it did. -/
def fnCompanyUptoRow : OpenClaim := { program := "ythmgpkcijolljaa", sum := "a8a54fc583c60c1ac57f9b16a10956af379167c02d904f03f6cddd5a7ae2333c", func := "loop.example/channelboard/laws.FnCompany", spec := "fnCompany", inPlace := ["(*sync.WaitGroup).Add", "internal/race.ReleaseMerge", "internal/race.Disable", "internal/race.Enable", "internal/synctest.IsInBubble", "internal/synctest.Associate[sync.WaitGroup]", "sync.fatal", "sync/atomic.OrUint64", "sync/atomic.AddUint64", "internal/race.Read", "sync/atomic.LoadUint64", "sync/atomic.StoreUint64", "internal/synctest.Disassociate[sync.WaitGroup]", "sync.runtime_Semrelease", "(*sync.WaitGroup).Done", "(*sync.WaitGroup).Wait", "internal/race.Acquire", "internal/synctest.IsAssociated[sync.WaitGroup]", "sync/atomic.CompareAndSwapUint64", "internal/race.Write", "sync.runtime_SemacquireWaitGroup"], unfollowed := true, recurses := true, leaving := true, apart := false, narrowed := true }
def FnCompanyUptoSaid : Prop := fnCompanyUptoRow.holds Try.pinned (OpenSpec.upto fnCompanySpec)

/-- 'laws.FnSaidAlone', WHERE WHAT IT READS IS OF BULK AT MOST 1048576: true; the input reads as it did. -/
def fnSaidAloneUptoRow : OpenClaim := { program := "ythmgpkcijolljaa", sum := "a8a54fc583c60c1ac57f9b16a10956af379167c02d904f03f6cddd5a7ae2333c", func := "loop.example/channelboard/laws.FnSaidAlone", spec := "fnSaidAlone", inPlace := ["(*sync.WaitGroup).Add", "internal/race.ReleaseMerge", "internal/race.Disable", "internal/race.Enable", "internal/synctest.IsInBubble", "internal/synctest.Associate[sync.WaitGroup]", "sync.fatal", "sync/atomic.OrUint64", "sync/atomic.AddUint64", "internal/race.Read", "sync/atomic.LoadUint64", "sync/atomic.StoreUint64", "internal/synctest.Disassociate[sync.WaitGroup]", "sync.runtime_Semrelease", "(*sync.WaitGroup).Done", "(*sync.WaitGroup).Wait", "internal/race.Acquire", "internal/synctest.IsAssociated[sync.WaitGroup]", "sync/atomic.CompareAndSwapUint64", "internal/race.Write", "sync.runtime_SemacquireWaitGroup"], unfollowed := true, recurses := true, leaving := true, apart := false, narrowed := true }
def FnSaidAloneUptoSaid : Prop := fnSaidAloneUptoRow.holds Try.pinned (OpenSpec.upto fnSaidAloneSpec)

/-- 'laws.FnExactSaidAlone', WHERE WHAT IT READS IS OF BULK AT MOST 1048576: true; the input reads as it did. -/
def fnExactSaidAloneUptoRow : OpenClaim := { program := "ythmgpkcijolljaa", sum := "a8a54fc583c60c1ac57f9b16a10956af379167c02d904f03f6cddd5a7ae2333c", func := "loop.example/channelboard/laws.FnExactSaidAlone", spec := "fnExactSaidAlone", inPlace := ["(*sync.WaitGroup).Add", "internal/race.ReleaseMerge", "internal/race.Disable", "internal/race.Enable", "internal/synctest.IsInBubble", "internal/synctest.Associate[sync.WaitGroup]", "sync.fatal", "sync/atomic.OrUint64", "sync/atomic.AddUint64", "internal/race.Read", "sync/atomic.LoadUint64", "sync/atomic.StoreUint64", "internal/synctest.Disassociate[sync.WaitGroup]", "sync.runtime_Semrelease", "(*sync.WaitGroup).Done", "(*sync.WaitGroup).Wait", "internal/race.Acquire", "internal/synctest.IsAssociated[sync.WaitGroup]", "sync/atomic.CompareAndSwapUint64", "internal/race.Write", "sync.runtime_SemacquireWaitGroup"], unfollowed := true, recurses := true, leaving := true, apart := false, narrowed := true }
def FnExactSaidAloneUptoSaid : Prop := fnExactSaidAloneUptoRow.holds Try.pinned (OpenSpec.upto fnExactSaidAloneSpec)

/-- 'laws.FnExactBridgesAfter', WHERE WHAT IT READS IS OF BULK AT MOST 1048576: true; the input reads as it did. -/
def fnExactBridgesAfterUptoRow : OpenClaim := { program := "ythmgpkcijolljaa", sum := "a8a54fc583c60c1ac57f9b16a10956af379167c02d904f03f6cddd5a7ae2333c", func := "loop.example/channelboard/laws.FnExactBridgesAfter", spec := "fnExactBridgesAfter", inPlace := ["(*sync.WaitGroup).Add", "internal/race.ReleaseMerge", "internal/race.Disable", "internal/race.Enable", "internal/synctest.IsInBubble", "internal/synctest.Associate[sync.WaitGroup]", "sync.fatal", "sync/atomic.OrUint64", "sync/atomic.AddUint64", "internal/race.Read", "sync/atomic.LoadUint64", "sync/atomic.StoreUint64", "internal/synctest.Disassociate[sync.WaitGroup]", "sync.runtime_Semrelease", "(*sync.WaitGroup).Done", "(*sync.WaitGroup).Wait", "internal/race.Acquire", "internal/synctest.IsAssociated[sync.WaitGroup]", "sync/atomic.CompareAndSwapUint64", "internal/race.Write", "sync.runtime_SemacquireWaitGroup"], unfollowed := true, recurses := true, leaving := true, apart := false, narrowed := true }
def FnExactBridgesAfterUptoSaid : Prop := fnExactBridgesAfterUptoRow.holds Try.pinned (OpenSpec.upto fnExactBridgesAfterSpec)

/-- 'laws.FnHeardBy', WHERE WHAT IT READS IS OF BULK AT MOST 1048576: true; the input reads as it did. -/
def fnHeardByUptoRow : OpenClaim := { program := "ythmgpkcijolljaa", sum := "a8a54fc583c60c1ac57f9b16a10956af379167c02d904f03f6cddd5a7ae2333c", func := "loop.example/channelboard/laws.FnHeardBy", spec := "fnHeardBy", inPlace := ["(*sync.WaitGroup).Add", "internal/race.ReleaseMerge", "internal/race.Disable", "internal/race.Enable", "internal/synctest.IsInBubble", "internal/synctest.Associate[sync.WaitGroup]", "sync.fatal", "sync/atomic.OrUint64", "sync/atomic.AddUint64", "internal/race.Read", "sync/atomic.LoadUint64", "sync/atomic.StoreUint64", "internal/synctest.Disassociate[sync.WaitGroup]", "sync.runtime_Semrelease", "(*sync.WaitGroup).Done", "(*sync.WaitGroup).Wait", "internal/race.Acquire", "internal/synctest.IsAssociated[sync.WaitGroup]", "sync/atomic.CompareAndSwapUint64", "internal/race.Write", "sync.runtime_SemacquireWaitGroup"], unfollowed := true, recurses := true, leaving := true, apart := false, narrowed := true }
def FnHeardByUptoSaid : Prop := fnHeardByUptoRow.holds Try.pinned (OpenSpec.upto fnHeardBySpec)

/-- 'laws.FnExactCompanyOf', WHERE WHAT IT READS IS OF BULK AT MOST 1048576: true; the input reads as it did. -/
def fnExactCompanyOfUptoRow : OpenClaim := { program := "ythmgpkcijolljaa", sum := "a8a54fc583c60c1ac57f9b16a10956af379167c02d904f03f6cddd5a7ae2333c", func := "loop.example/channelboard/laws.FnExactCompanyOf", spec := "fnExactCompanyOf", inPlace := ["(*sync.WaitGroup).Add", "internal/race.ReleaseMerge", "internal/race.Disable", "internal/race.Enable", "internal/synctest.IsInBubble", "internal/synctest.Associate[sync.WaitGroup]", "sync.fatal", "sync/atomic.OrUint64", "sync/atomic.AddUint64", "internal/race.Read", "sync/atomic.LoadUint64", "sync/atomic.StoreUint64", "internal/synctest.Disassociate[sync.WaitGroup]", "sync.runtime_Semrelease", "(*sync.WaitGroup).Done", "(*sync.WaitGroup).Wait", "internal/race.Acquire", "internal/synctest.IsAssociated[sync.WaitGroup]", "sync/atomic.CompareAndSwapUint64", "internal/race.Write", "sync.runtime_SemacquireWaitGroup"], unfollowed := true, recurses := true, leaving := true, apart := false, narrowed := true }
def FnExactCompanyOfUptoSaid : Prop := fnExactCompanyOfUptoRow.holds Try.pinned (OpenSpec.upto fnExactCompanyOfSpec)

end Rows
end Go.Proofs.Ythmgpkcijolljaa
