/-
  DERIVED. GIVEN WITH THE SEED: THE CARDS: each row of YthdnhaaojicmbaaDoorRows.lean that lists a variable, with what it lists TIED to the program's text (the seventh form; the later family's looks); each row that meets fmt, with fmt's text TOLD by the authors' own Lean function (tested against real Go, not proved from fmt's source: count such statements apart). THE CARD IS WHAT COUNTS. Prove the row's statement (the work); the ties are given (YthdnhaaojicmbaaDoorTie.lean); close each card by the builder's one call (the guide's Derived/Test/ToyasCard.lean, 'card_holds'). Laid BY PROGRAM, IN A SANDBOX (cutbox-door.mjs). By AI agents, Wed Nov 11 2026. No macro, syntax, notation, axiom, sorry.
-/
import Derived.Test.YthdnhaaojicmbaaDoorRows
import GoSem.ClaimSeven
namespace Go.Proofs.YthdnhaaojicmbaaDoor
namespace Rows

/-- THE TIED CARD OF 'laws.FnExactFormatOutcome'. -/
def fnExactFormatOutcomeCard : Claim7 := { stood := { row := fnExactFormatOutcomeRow, standIns := [], harness := (true, "181940c2fb0868e0e5d08159fba235878d68ec8f3be1507fc72bd6e570d69e5d"), looks := false }, kinds := [], alts := [], laidByText := true, laidKinds := [.data, .data, .data], laidTests := true, laidLooks := .later }
def FnExactFormatOutcomeCardSaid : Prop := Claim7.holds Tryd.pinned (.plain (OpenSpec.ofChange fnExactFormatOutcomeSpec)) fnExactFormatOutcomeCard

/-- THE TIED CARD OF 'laws.FnOutcomeText'. -/
def fnOutcomeTextCard : Claim7 := { stood := { row := fnOutcomeTextRow, standIns := [], harness := (true, "181940c2fb0868e0e5d08159fba235878d68ec8f3be1507fc72bd6e570d69e5d"), looks := false }, kinds := [], alts := [], laidByText := true, laidKinds := [.data, .data, .data], laidTests := true, laidLooks := .later }
def FnOutcomeTextCardSaid : Prop := Claim7.holds Tryd.pinned (.plain (OpenSpec.ofChange fnOutcomeTextSpec)) fnOutcomeTextCard

/-- THE SECOND FORM's CARD OF 'laws.FnExactFormatOutcome'. -/
def fnExactFormatOutcomeUptoCard : Claim7 := { stood := { row := fnExactFormatOutcomeUptoRow, standIns := [], harness := (true, "181940c2fb0868e0e5d08159fba235878d68ec8f3be1507fc72bd6e570d69e5d"), looks := false }, kinds := [], alts := [], laidByText := true, laidKinds := [.data, .data, .data], laidTests := true, laidLooks := .later }
def FnExactFormatOutcomeUptoCardSaid : Prop := Claim7.holds Tryd.pinned (.plain (OpenSpec.upto fnExactFormatOutcomeSpec)) fnExactFormatOutcomeUptoCard

/-- THE SECOND FORM's CARD OF 'laws.FnOutcomeText'. -/
def fnOutcomeTextUptoCard : Claim7 := { stood := { row := fnOutcomeTextUptoRow, standIns := [], harness := (true, "181940c2fb0868e0e5d08159fba235878d68ec8f3be1507fc72bd6e570d69e5d"), looks := false }, kinds := [], alts := [], laidByText := true, laidKinds := [.data, .data, .data], laidTests := true, laidLooks := .later }
def FnOutcomeTextUptoCardSaid : Prop := Claim7.holds Tryd.pinned (.plain (OpenSpec.upto fnOutcomeTextSpec)) fnOutcomeTextUptoCard
end Rows
end Go.Proofs.YthdnhaaojicmbaaDoor
