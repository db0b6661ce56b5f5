/-
  DERIVED. GIVEN WITH THE SEED: THE CARDS: each row of YtcbbefibebkfgaaGreatDoorRows.lean that lists a variable, with what it lists TIED to the program's text (the seventh form; the later family's looks); each row that meets fmt, with fmt's text TOLD by the authors' own Lean function (tested against real Go, not proved from fmt's source: count such statements apart). THE CARD IS WHAT COUNTS. Prove the row's statement (the work); the ties are given (YtcbbefibebkfgaaGreatDoorTie.lean); close each card by the builder's one call (the guide's Derived/Test/ToyasCard.lean, 'card_holds'). Laid BY PROGRAM, IN A SANDBOX (cutbox-door.mjs). By AI agents, Wed Nov 11 2026. No macro, syntax, notation, axiom, sorry.
-/
import Derived.Test.YtcbbefibebkfgaaGreatDoorRows
import GoSem.ClaimSeven
namespace Go.Proofs.YtcbbefibebkfgaaGreatDoor
namespace Rows

/-- THE TIED CARD OF 'laws.FnFacts'. -/
def fnFactsCard : Claim7 := { stood := { row := fnFactsRow, standIns := [], harness := (true, "ccb4f3e431cf33137b57ac3fbc91852b42402bb18ef1e7510e9d58b4a086fae9"), looks := true }, kinds := [], alts := [], laidByText := true, laidKinds := [.data, .data, .data, .data, .sentinel, .sentinel, .pinned], laidTests := true, laidLooks := .later }
def FnFactsCardSaid : Prop := Claim7.holds Tryz.pinned (.plain (OpenSpec.ofChange fnFactsSpec)) fnFactsCard

/-- THE TIED CARD OF 'laws.FnFactsRead'. -/
def fnFactsReadCard : Claim7 := { stood := { row := fnFactsReadRow, standIns := [], harness := (true, "ccb4f3e431cf33137b57ac3fbc91852b42402bb18ef1e7510e9d58b4a086fae9"), looks := true }, kinds := [], alts := [], laidByText := true, laidKinds := [.data, .data, .data, .data, .sentinel, .sentinel, .pinned], laidTests := true, laidLooks := .later }
def FnFactsReadCardSaid : Prop := Claim7.holds Tryz.pinned (.plain (OpenSpec.ofChange fnFactsReadSpec)) fnFactsReadCard

/-- THE SECOND FORM's CARD OF 'laws.FnFacts'. -/
def fnFactsUptoCard : Claim7 := { stood := { row := fnFactsUptoRow, standIns := [], harness := (true, "ccb4f3e431cf33137b57ac3fbc91852b42402bb18ef1e7510e9d58b4a086fae9"), looks := true }, kinds := [], alts := [], laidByText := true, laidKinds := [.data, .data, .data, .data, .sentinel, .sentinel, .pinned], laidTests := true, laidLooks := .later }
def FnFactsUptoCardSaid : Prop := Claim7.holds Tryz.pinned (.plain (OpenSpec.upto fnFactsSpec)) fnFactsUptoCard

/-- THE SECOND FORM's CARD OF 'laws.FnFactsRead'. -/
def fnFactsReadUptoCard : Claim7 := { stood := { row := fnFactsReadUptoRow, standIns := [], harness := (true, "ccb4f3e431cf33137b57ac3fbc91852b42402bb18ef1e7510e9d58b4a086fae9"), looks := true }, kinds := [], alts := [], laidByText := true, laidKinds := [.data, .data, .data, .data, .sentinel, .sentinel, .pinned], laidTests := true, laidLooks := .later }
def FnFactsReadUptoCardSaid : Prop := Claim7.holds Tryz.pinned (.plain (OpenSpec.upto fnFactsReadSpec)) fnFactsReadUptoCard
end Rows
end Go.Proofs.YtcbbefibebkfgaaGreatDoor
