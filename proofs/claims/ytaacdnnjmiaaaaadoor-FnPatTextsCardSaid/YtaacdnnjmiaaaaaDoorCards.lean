/-
  DERIVED. GIVEN WITH THE SEED: THE CARDS: each row of YtaacdnnjmiaaaaaDoorRows.lean that lists a variable, with what it lists TIED to the program's text (the seventh form; the later family's looks); each row that meets fmt, with fmt's text TOLD by the authors' own Lean function (tested against real Go, not proved from fmt's source: count such statements apart). THE CARD IS WHAT COUNTS. Prove the row's statement (the work); the ties are given (YtaacdnnjmiaaaaaDoorTie.lean); close each card by the builder's one call (the guide's Derived/Test/ToyasCard.lean, 'card_holds'). Laid BY PROGRAM, IN A SANDBOX (cutbox-door.mjs). By AI agents, Wed Nov 11 2026. No macro, syntax, notation, axiom, sorry.
-/
import Derived.Test.YtaacdnnjmiaaaaaDoorRows
import GoSem.ClaimSeven
namespace Go.Proofs.YtaacdnnjmiaaaaaDoor
namespace Rows

/-- THE TIED CARD OF 'laws.FnPatTexts'. -/
def fnPatTextsCard : Claim7 := { stood := { row := fnPatTextsRow, standIns := [], harness := (true, "979c767244863224e48b040e325c474213ffeca4cc58f3838e5d8d4749fa4b76"), looks := false }, kinds := [], alts := [], laidByText := true, laidKinds := [.data, .data, .data], laidTests := true, laidLooks := .later }
def FnPatTextsCardSaid : Prop := Claim7.holds Tryd.pinned (.plain (OpenSpec.ofChange fnPatTextsSpec)) fnPatTextsCard

/-- THE SECOND FORM's CARD OF 'laws.FnPatTexts'. -/
def fnPatTextsUptoCard : Claim7 := { stood := { row := fnPatTextsUptoRow, standIns := [], harness := (true, "979c767244863224e48b040e325c474213ffeca4cc58f3838e5d8d4749fa4b76"), looks := false }, kinds := [], alts := [], laidByText := true, laidKinds := [.data, .data, .data], laidTests := true, laidLooks := .later }
def FnPatTextsUptoCardSaid : Prop := Claim7.holds Tryd.pinned (.plain (OpenSpec.upto fnPatTextsSpec)) fnPatTextsUptoCard
end Rows
end Go.Proofs.YtaacdnnjmiaaaaaDoor
