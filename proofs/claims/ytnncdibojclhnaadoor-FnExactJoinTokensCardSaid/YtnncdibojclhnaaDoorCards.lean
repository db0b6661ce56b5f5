/-
  DERIVED. GIVEN WITH THE SEED: THE CARDS: each row of YtnncdibojclhnaaDoorRows.lean that lists a variable, with what it lists TIED to the program's text (the seventh form; the later family's looks); each row that meets fmt, with fmt's text TOLD by the authors' own Lean function (tested against real Go, not proved from fmt's source: count such statements apart). THE CARD IS WHAT COUNTS. Prove the row's statement (the work); the ties are given (YtnncdibojclhnaaDoorTie.lean); close each card by the builder's one call (the guide's Derived/Test/ToyasCard.lean, 'card_holds'). Laid BY PROGRAM, IN A SANDBOX (cutbox-door.mjs). By AI agents, Wed Nov 11 2026. No macro, syntax, notation, axiom, sorry.
-/
import Derived.Test.YtnncdibojclhnaaDoorRows
import GoSem.ClaimSeven
namespace Go.Proofs.YtnncdibojclhnaaDoor
namespace Rows

/-- THE TIED CARD OF 'laws.FnExactValText'. -/
def fnExactValTextCard : Claim7 := { stood := { row := fnExactValTextRow, standIns := [], harness := (true, "b128e133556aa70cf76cb3230a23cbe3e809268f114f82cb726eaa8b75ad10b7"), looks := false }, kinds := [], alts := [], laidByText := true, laidKinds := [.data, .data, .data], laidTests := true, laidLooks := .later }
def FnExactValTextCardSaid : Prop := Claim7.holds Tryd.pinned (.plain (OpenSpec.ofChange fnExactValTextSpec)) fnExactValTextCard

/-- THE TIED CARD OF 'laws.FnExactTokenText'. -/
def fnExactTokenTextCard : Claim7 := { stood := { row := fnExactTokenTextRow, standIns := [], harness := (true, "b128e133556aa70cf76cb3230a23cbe3e809268f114f82cb726eaa8b75ad10b7"), looks := false }, kinds := [], alts := [], laidByText := true, laidKinds := [.data, .data, .data], laidTests := true, laidLooks := .later }
def FnExactTokenTextCardSaid : Prop := Claim7.holds Tryd.pinned (.plain (OpenSpec.ofChange fnExactTokenTextSpec)) fnExactTokenTextCard

/-- THE TIED CARD OF 'laws.FnExactCondText'. -/
def fnExactCondTextCard : Claim7 := { stood := { row := fnExactCondTextRow, standIns := [], harness := (true, "b128e133556aa70cf76cb3230a23cbe3e809268f114f82cb726eaa8b75ad10b7"), looks := false }, kinds := [], alts := [], laidByText := true, laidKinds := [.data, .data, .data], laidTests := true, laidLooks := .later }
def FnExactCondTextCardSaid : Prop := Claim7.holds Tryd.pinned (.plain (OpenSpec.ofChange fnExactCondTextSpec)) fnExactCondTextCard

/-- THE TIED CARD OF 'laws.FnExactPatText'. -/
def fnExactPatTextCard : Claim7 := { stood := { row := fnExactPatTextRow, standIns := [], harness := (true, "b128e133556aa70cf76cb3230a23cbe3e809268f114f82cb726eaa8b75ad10b7"), looks := false }, kinds := [], alts := [], laidByText := true, laidKinds := [.data, .data, .data], laidTests := true, laidLooks := .later }
def FnExactPatTextCardSaid : Prop := Claim7.holds Tryd.pinned (.plain (OpenSpec.ofChange fnExactPatTextSpec)) fnExactPatTextCard

/-- THE TIED CARD OF 'laws.FnExactFactText'. -/
def fnExactFactTextCard : Claim7 := { stood := { row := fnExactFactTextRow, standIns := [], harness := (true, "b128e133556aa70cf76cb3230a23cbe3e809268f114f82cb726eaa8b75ad10b7"), looks := false }, kinds := [], alts := [], laidByText := true, laidKinds := [.data, .data, .data], laidTests := true, laidLooks := .later }
def FnExactFactTextCardSaid : Prop := Claim7.holds Tryd.pinned (.plain (OpenSpec.ofChange fnExactFactTextSpec)) fnExactFactTextCard

/-- THE TIED CARD OF 'laws.FnExactJoinTokens'. -/
def fnExactJoinTokensCard : Claim7 := { stood := { row := fnExactJoinTokensRow, standIns := [], harness := (true, "b128e133556aa70cf76cb3230a23cbe3e809268f114f82cb726eaa8b75ad10b7"), looks := false }, kinds := [], alts := [], laidByText := true, laidKinds := [.data, .data, .data], laidTests := true, laidLooks := .later }
def FnExactJoinTokensCardSaid : Prop := Claim7.holds Tryd.pinned (.plain (OpenSpec.ofChange fnExactJoinTokensSpec)) fnExactJoinTokensCard

/-- THE SECOND FORM's CARD OF 'laws.FnExactValText'. -/
def fnExactValTextUptoCard : Claim7 := { stood := { row := fnExactValTextUptoRow, standIns := [], harness := (true, "b128e133556aa70cf76cb3230a23cbe3e809268f114f82cb726eaa8b75ad10b7"), looks := false }, kinds := [], alts := [], laidByText := true, laidKinds := [.data, .data, .data], laidTests := true, laidLooks := .later }
def FnExactValTextUptoCardSaid : Prop := Claim7.holds Tryd.pinned (.plain (OpenSpec.upto fnExactValTextSpec)) fnExactValTextUptoCard

/-- THE SECOND FORM's CARD OF 'laws.FnExactTokenText'. -/
def fnExactTokenTextUptoCard : Claim7 := { stood := { row := fnExactTokenTextUptoRow, standIns := [], harness := (true, "b128e133556aa70cf76cb3230a23cbe3e809268f114f82cb726eaa8b75ad10b7"), looks := false }, kinds := [], alts := [], laidByText := true, laidKinds := [.data, .data, .data], laidTests := true, laidLooks := .later }
def FnExactTokenTextUptoCardSaid : Prop := Claim7.holds Tryd.pinned (.plain (OpenSpec.upto fnExactTokenTextSpec)) fnExactTokenTextUptoCard

/-- THE SECOND FORM's CARD OF 'laws.FnExactCondText'. -/
def fnExactCondTextUptoCard : Claim7 := { stood := { row := fnExactCondTextUptoRow, standIns := [], harness := (true, "b128e133556aa70cf76cb3230a23cbe3e809268f114f82cb726eaa8b75ad10b7"), looks := false }, kinds := [], alts := [], laidByText := true, laidKinds := [.data, .data, .data], laidTests := true, laidLooks := .later }
def FnExactCondTextUptoCardSaid : Prop := Claim7.holds Tryd.pinned (.plain (OpenSpec.upto fnExactCondTextSpec)) fnExactCondTextUptoCard

/-- THE SECOND FORM's CARD OF 'laws.FnExactPatText'. -/
def fnExactPatTextUptoCard : Claim7 := { stood := { row := fnExactPatTextUptoRow, standIns := [], harness := (true, "b128e133556aa70cf76cb3230a23cbe3e809268f114f82cb726eaa8b75ad10b7"), looks := false }, kinds := [], alts := [], laidByText := true, laidKinds := [.data, .data, .data], laidTests := true, laidLooks := .later }
def FnExactPatTextUptoCardSaid : Prop := Claim7.holds Tryd.pinned (.plain (OpenSpec.upto fnExactPatTextSpec)) fnExactPatTextUptoCard

/-- THE SECOND FORM's CARD OF 'laws.FnExactFactText'. -/
def fnExactFactTextUptoCard : Claim7 := { stood := { row := fnExactFactTextUptoRow, standIns := [], harness := (true, "b128e133556aa70cf76cb3230a23cbe3e809268f114f82cb726eaa8b75ad10b7"), looks := false }, kinds := [], alts := [], laidByText := true, laidKinds := [.data, .data, .data], laidTests := true, laidLooks := .later }
def FnExactFactTextUptoCardSaid : Prop := Claim7.holds Tryd.pinned (.plain (OpenSpec.upto fnExactFactTextSpec)) fnExactFactTextUptoCard

/-- THE SECOND FORM's CARD OF 'laws.FnExactJoinTokens'. -/
def fnExactJoinTokensUptoCard : Claim7 := { stood := { row := fnExactJoinTokensUptoRow, standIns := [], harness := (true, "b128e133556aa70cf76cb3230a23cbe3e809268f114f82cb726eaa8b75ad10b7"), looks := false }, kinds := [], alts := [], laidByText := true, laidKinds := [.data, .data, .data], laidTests := true, laidLooks := .later }
def FnExactJoinTokensUptoCardSaid : Prop := Claim7.holds Tryd.pinned (.plain (OpenSpec.upto fnExactJoinTokensSpec)) fnExactJoinTokensUptoCard
end Rows
end Go.Proofs.YtnncdibojclhnaaDoor
