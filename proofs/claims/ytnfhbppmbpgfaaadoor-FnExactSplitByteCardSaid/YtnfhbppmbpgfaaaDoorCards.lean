/-
  DERIVED. GIVEN WITH THE SEED: THE CARDS: each row of YtnfhbppmbpgfaaaDoorRows.lean that lists a variable, with what it lists TIED to the program's text (the seventh form; the later family's looks); each row that meets fmt, with fmt's text TOLD by the authors' own Lean function (tested against real Go, not proved from fmt's source: count such statements apart). THE CARD IS WHAT COUNTS. Prove the row's statement (the work); the ties are given (YtnfhbppmbpgfaaaDoorTie.lean); close each card by the builder's one call (the guide's Derived/Test/ToyasCard.lean, 'card_holds'). Laid BY PROGRAM, IN A SANDBOX (cutbox-door.mjs). By AI agents, Wed Nov 11 2026. No macro, syntax, notation, axiom, sorry.
-/
import Derived.Test.YtnfhbppmbpgfaaaDoorRows
import GoSem.ClaimSeven
namespace Go.Proofs.YtnfhbppmbpgfaaaDoor
namespace Rows

/-- THE TIED CARD OF 'laws.FnExactTokenize'. -/
def fnExactTokenizeCard : Claim7 := { stood := { row := fnExactTokenizeRow, standIns := [], harness := (true, "964fdc3089dc0c9b7192c91ce63c7adbd82afb549a5cd08e736fdf4cdac7159b"), looks := true }, kinds := [], alts := [], laidByText := true, laidKinds := [.data, .data, .data, .sentinel, .sentinel], laidTests := true, laidLooks := .later }
def FnExactTokenizeCardSaid : Prop := Claim7.holds Tryd.pinned (.plain (OpenSpec.ofChange fnExactTokenizeSpec)) fnExactTokenizeCard

/-- THE TIED CARD OF 'laws.FnErrors'. -/
def fnErrorsCard : Claim7 := { stood := { row := fnErrorsRow, standIns := [], harness := (true, "964fdc3089dc0c9b7192c91ce63c7adbd82afb549a5cd08e736fdf4cdac7159b"), looks := true }, kinds := [], alts := [], laidByText := true, laidKinds := [.widerDeep], laidTests := true, laidLooks := .later }
def FnErrorsCardSaid : Prop := Claim7.holds Tryd.pinned (.plain (OpenSpec.ofChange fnErrorsSpec)) fnErrorsCard

/-- THE TIED CARD OF 'laws.FnExactFormatInt'. -/
def fnExactFormatIntCard : Claim7 := { stood := { row := fnExactFormatIntRow, standIns := [], harness := (true, "964fdc3089dc0c9b7192c91ce63c7adbd82afb549a5cd08e736fdf4cdac7159b"), looks := true }, kinds := [], alts := [], laidByText := true, laidKinds := [.data, .data, .data], laidTests := true, laidLooks := .later }
def FnExactFormatIntCardSaid : Prop := Claim7.holds Tryd.pinned (.plain (OpenSpec.ofChange fnExactFormatIntSpec)) fnExactFormatIntCard

/-- THE TIED CARD OF 'laws.FnExactFormatToken'. -/
def fnExactFormatTokenCard : Claim7 := { stood := { row := fnExactFormatTokenRow, standIns := [], harness := (true, "964fdc3089dc0c9b7192c91ce63c7adbd82afb549a5cd08e736fdf4cdac7159b"), looks := true }, kinds := [], alts := [], laidByText := true, laidKinds := [.data, .data, .data], laidTests := true, laidLooks := .later }
def FnExactFormatTokenCardSaid : Prop := Claim7.holds Tryd.pinned (.plain (OpenSpec.ofChange fnExactFormatTokenSpec)) fnExactFormatTokenCard

/-- THE TIED CARD OF 'laws.FnExactSplitByte'. -/
def fnExactSplitByteCard : Claim7 := { stood := { row := fnExactSplitByteRow, standIns := [], harness := (true, "964fdc3089dc0c9b7192c91ce63c7adbd82afb549a5cd08e736fdf4cdac7159b"), looks := true }, kinds := [], alts := [], laidByText := true, laidKinds := [.data, .pinned], laidTests := true, laidLooks := .later }
def FnExactSplitByteCardSaid : Prop := Claim7.holds Tryd.pinned (.plain (OpenSpec.ofChange fnExactSplitByteSpec)) fnExactSplitByteCard

/-- THE TIED CARD OF 'laws.FnExactFormatTokens'. -/
def fnExactFormatTokensCard : Claim7 := { stood := { row := fnExactFormatTokensRow, standIns := [], harness := (true, "964fdc3089dc0c9b7192c91ce63c7adbd82afb549a5cd08e736fdf4cdac7159b"), looks := true }, kinds := [], alts := [], laidByText := true, laidKinds := [.data, .data, .data], laidTests := true, laidLooks := .later }
def FnExactFormatTokensCardSaid : Prop := Claim7.holds Tryd.pinned (.plain (OpenSpec.ofChange fnExactFormatTokensSpec)) fnExactFormatTokensCard

/-- THE SECOND FORM's CARD OF 'laws.FnExactTokenize'. -/
def fnExactTokenizeUptoCard : Claim7 := { stood := { row := fnExactTokenizeUptoRow, standIns := [], harness := (true, "964fdc3089dc0c9b7192c91ce63c7adbd82afb549a5cd08e736fdf4cdac7159b"), looks := true }, kinds := [], alts := [], laidByText := true, laidKinds := [.data, .data, .data, .sentinel, .sentinel], laidTests := true, laidLooks := .later }
def FnExactTokenizeUptoCardSaid : Prop := Claim7.holds Tryd.pinned (.plain (OpenSpec.upto fnExactTokenizeSpec)) fnExactTokenizeUptoCard

/-- THE SECOND FORM's CARD OF 'laws.FnErrors'. -/
def fnErrorsUptoCard : Claim7 := { stood := { row := fnErrorsUptoRow, standIns := [], harness := (true, "964fdc3089dc0c9b7192c91ce63c7adbd82afb549a5cd08e736fdf4cdac7159b"), looks := true }, kinds := [], alts := [], laidByText := true, laidKinds := [.widerDeep], laidTests := true, laidLooks := .later }
def FnErrorsUptoCardSaid : Prop := Claim7.holds Tryd.pinned (.plain (OpenSpec.upto fnErrorsSpec)) fnErrorsUptoCard

/-- THE SECOND FORM's CARD OF 'laws.FnExactFormatInt'. -/
def fnExactFormatIntUptoCard : Claim7 := { stood := { row := fnExactFormatIntUptoRow, standIns := [], harness := (true, "964fdc3089dc0c9b7192c91ce63c7adbd82afb549a5cd08e736fdf4cdac7159b"), looks := true }, kinds := [], alts := [], laidByText := true, laidKinds := [.data, .data, .data], laidTests := true, laidLooks := .later }
def FnExactFormatIntUptoCardSaid : Prop := Claim7.holds Tryd.pinned (.plain (OpenSpec.upto fnExactFormatIntSpec)) fnExactFormatIntUptoCard

/-- THE SECOND FORM's CARD OF 'laws.FnExactFormatToken'. -/
def fnExactFormatTokenUptoCard : Claim7 := { stood := { row := fnExactFormatTokenUptoRow, standIns := [], harness := (true, "964fdc3089dc0c9b7192c91ce63c7adbd82afb549a5cd08e736fdf4cdac7159b"), looks := true }, kinds := [], alts := [], laidByText := true, laidKinds := [.data, .data, .data], laidTests := true, laidLooks := .later }
def FnExactFormatTokenUptoCardSaid : Prop := Claim7.holds Tryd.pinned (.plain (OpenSpec.upto fnExactFormatTokenSpec)) fnExactFormatTokenUptoCard

/-- THE SECOND FORM's CARD OF 'laws.FnExactSplitByte'. -/
def fnExactSplitByteUptoCard : Claim7 := { stood := { row := fnExactSplitByteUptoRow, standIns := [], harness := (true, "964fdc3089dc0c9b7192c91ce63c7adbd82afb549a5cd08e736fdf4cdac7159b"), looks := true }, kinds := [], alts := [], laidByText := true, laidKinds := [.data, .pinned], laidTests := true, laidLooks := .later }
def FnExactSplitByteUptoCardSaid : Prop := Claim7.holds Tryd.pinned (.plain (OpenSpec.upto fnExactSplitByteSpec)) fnExactSplitByteUptoCard

/-- THE SECOND FORM's CARD OF 'laws.FnExactFormatTokens'. -/
def fnExactFormatTokensUptoCard : Claim7 := { stood := { row := fnExactFormatTokensUptoRow, standIns := [], harness := (true, "964fdc3089dc0c9b7192c91ce63c7adbd82afb549a5cd08e736fdf4cdac7159b"), looks := true }, kinds := [], alts := [], laidByText := true, laidKinds := [.data, .data, .data], laidTests := true, laidLooks := .later }
def FnExactFormatTokensUptoCardSaid : Prop := Claim7.holds Tryd.pinned (.plain (OpenSpec.upto fnExactFormatTokensSpec)) fnExactFormatTokensUptoCard
end Rows
end Go.Proofs.YtnfhbppmbpgfaaaDoor
