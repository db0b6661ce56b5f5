/-
  DERIVED. GIVEN WITH THE SEED: THE CARDS: each row of YtemaofcbgmdifaaDoorRows.lean that lists a variable, with what it lists TIED to the program's text (the seventh form; the later family's looks); each row that meets fmt, with fmt's text TOLD by the authors' own Lean function (tested against real Go, not proved from fmt's source: count such statements apart). THE CARD IS WHAT COUNTS. Prove the row's statement (the work); the ties are given (YtemaofcbgmdifaaDoorTie.lean); close each card by the builder's one call (the guide's Derived/Test/ToyasCard.lean, 'card_holds'). Laid BY PROGRAM, IN A SANDBOX (cutbox-door.mjs). By AI agents, Wed Nov 11 2026. No macro, syntax, notation, axiom, sorry.
-/
import Derived.Test.YtemaofcbgmdifaaDoorRows
import GoSem.ClaimSeven
namespace Go.Proofs.YtemaofcbgmdifaaDoor
namespace Rows

/-- THE TIED CARD OF 'laws.FnValsRead'. -/
def fnValsReadCard : Claim7 := { stood := { row := fnValsReadRow, standIns := [], harness := (true, "9682a240ac2b1bcb69e9fed5e325774ad795cd6cdc4b1b1ca08e7061d91f0139"), looks := true }, kinds := [], alts := [], laidByText := true, laidKinds := [.data, .data, .data, .sentinel, .sentinel], laidTests := true, laidLooks := .later }
def FnValsReadCardSaid : Prop := Claim7.holds Tryd.pinned (.plain (OpenSpec.ofChange fnValsReadSpec)) fnValsReadCard

/-- THE SECOND FORM's CARD OF 'laws.FnValsRead'. -/
def fnValsReadUptoCard : Claim7 := { stood := { row := fnValsReadUptoRow, standIns := [], harness := (true, "9682a240ac2b1bcb69e9fed5e325774ad795cd6cdc4b1b1ca08e7061d91f0139"), looks := true }, kinds := [], alts := [], laidByText := true, laidKinds := [.data, .data, .data, .sentinel, .sentinel], laidTests := true, laidLooks := .later }
def FnValsReadUptoCardSaid : Prop := Claim7.holds Tryd.pinned (.plain (OpenSpec.upto fnValsReadSpec)) fnValsReadUptoCard
end Rows
end Go.Proofs.YtemaofcbgmdifaaDoor
