/-
  DERIVED. GIVEN WITH THE SEED: THE CARDS: each row of YtgpinhamgdganaaDoorRows.lean that lists a variable, with what it lists TIED to the program's text (the seventh form; the later family's looks); each row that meets fmt, with fmt's text TOLD by the authors' own Lean function (tested against real Go, not proved from fmt's source: count such statements apart). THE CARD IS WHAT COUNTS. Prove the row's statement (the work); the ties are given (YtgpinhamgdganaaDoorTie.lean); close each card by the builder's one call (the guide's Derived/Test/ToyasCard.lean, 'card_holds'). Laid BY PROGRAM, IN A SANDBOX (cutbox-door.mjs). By AI agents, Wed Nov 11 2026. No macro, syntax, notation, axiom, sorry.
-/
import Derived.Test.YtgpinhamgdganaaDoorRows
import GoSem.ClaimSeven
namespace Go.Proofs.YtgpinhamgdganaaDoor
namespace Rows

/-- THE TIED CARD OF 'laws.FnAll'. -/
def fnAllCard : Claim7 := { stood := { row := fnAllRow, standIns := [], harness := (true, "db1a87794ac2240135076089b74a552ae6c825e1e58485ac915e78101b6dc0d5"), looks := true }, kinds := [], alts := [], laidByText := true, laidKinds := [.data, .data, .data], laidTests := true, laidLooks := .later }
def FnAllCardSaid : Prop := Claim7.holds Tryd.pinned (.plain (OpenSpec.ofChange fnAllSpec)) fnAllCard

/-- THE TIED CARD OF 'laws.FnPatTexts'. -/
def fnPatTextsCard : Claim7 := { stood := { row := fnPatTextsRow, standIns := [], harness := (true, "db1a87794ac2240135076089b74a552ae6c825e1e58485ac915e78101b6dc0d5"), looks := true }, kinds := [], alts := [], laidByText := true, laidKinds := [.data, .data, .data], laidTests := true, laidLooks := .later }
def FnPatTextsCardSaid : Prop := Claim7.holds Tryd.pinned (.plain (OpenSpec.ofChange fnPatTextsSpec)) fnPatTextsCard

/-- THE TIED CARD OF 'laws.FnExactParseVal'. -/
def fnExactParseValCard : Claim7 := { stood := { row := fnExactParseValRow, standIns := [], harness := (true, "db1a87794ac2240135076089b74a552ae6c825e1e58485ac915e78101b6dc0d5"), looks := true }, kinds := [], alts := [], laidByText := true, laidKinds := [.data, .data, .data, .sentinel, .sentinel], laidTests := true, laidLooks := .later }
def FnExactParseValCardSaid : Prop := Claim7.holds Tryd.pinned (.plain (OpenSpec.ofChange fnExactParseValSpec)) fnExactParseValCard

/-- THE TIED CARD OF 'laws.FnVals'. -/
def fnValsCard : Claim7 := { stood := { row := fnValsRow, standIns := [], harness := (true, "db1a87794ac2240135076089b74a552ae6c825e1e58485ac915e78101b6dc0d5"), looks := true }, kinds := [], alts := [], laidByText := true, laidKinds := [.data, .data, .data, .sentinel, .sentinel], laidTests := true, laidLooks := .later }
def FnValsCardSaid : Prop := Claim7.holds Tryd.pinned (.plain (OpenSpec.ofChange fnValsSpec)) fnValsCard

/-- THE SECOND FORM's CARD OF 'laws.FnAll'. -/
def fnAllUptoCard : Claim7 := { stood := { row := fnAllUptoRow, standIns := [], harness := (true, "db1a87794ac2240135076089b74a552ae6c825e1e58485ac915e78101b6dc0d5"), looks := true }, kinds := [], alts := [], laidByText := true, laidKinds := [.data, .data, .data], laidTests := true, laidLooks := .later }
def FnAllUptoCardSaid : Prop := Claim7.holds Tryd.pinned (.plain (OpenSpec.upto fnAllSpec)) fnAllUptoCard

/-- THE SECOND FORM's CARD OF 'laws.FnPatTexts'. -/
def fnPatTextsUptoCard : Claim7 := { stood := { row := fnPatTextsUptoRow, standIns := [], harness := (true, "db1a87794ac2240135076089b74a552ae6c825e1e58485ac915e78101b6dc0d5"), looks := true }, kinds := [], alts := [], laidByText := true, laidKinds := [.data, .data, .data], laidTests := true, laidLooks := .later }
def FnPatTextsUptoCardSaid : Prop := Claim7.holds Tryd.pinned (.plain (OpenSpec.upto fnPatTextsSpec)) fnPatTextsUptoCard

/-- THE SECOND FORM's CARD OF 'laws.FnExactParseVal'. -/
def fnExactParseValUptoCard : Claim7 := { stood := { row := fnExactParseValUptoRow, standIns := [], harness := (true, "db1a87794ac2240135076089b74a552ae6c825e1e58485ac915e78101b6dc0d5"), looks := true }, kinds := [], alts := [], laidByText := true, laidKinds := [.data, .data, .data, .sentinel, .sentinel], laidTests := true, laidLooks := .later }
def FnExactParseValUptoCardSaid : Prop := Claim7.holds Tryd.pinned (.plain (OpenSpec.upto fnExactParseValSpec)) fnExactParseValUptoCard

/-- THE SECOND FORM's CARD OF 'laws.FnVals'. -/
def fnValsUptoCard : Claim7 := { stood := { row := fnValsUptoRow, standIns := [], harness := (true, "db1a87794ac2240135076089b74a552ae6c825e1e58485ac915e78101b6dc0d5"), looks := true }, kinds := [], alts := [], laidByText := true, laidKinds := [.data, .data, .data, .sentinel, .sentinel], laidTests := true, laidLooks := .later }
def FnValsUptoCardSaid : Prop := Claim7.holds Tryd.pinned (.plain (OpenSpec.upto fnValsSpec)) fnValsUptoCard
end Rows
end Go.Proofs.YtgpinhamgdganaaDoor
