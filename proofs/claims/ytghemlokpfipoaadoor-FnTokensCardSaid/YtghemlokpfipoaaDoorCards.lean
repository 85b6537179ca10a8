/-
  DERIVED. GIVEN WITH THE SEED: THE CARDS: each row of YtghemlokpfipoaaDoorRows.lean that lists a variable, with what it lists TIED to the program's text (the seventh form; the later family's looks); each row that meets fmt, with fmt's text TOLD by the authors' own Lean function (tested against real Go, not proved from fmt's source: count such statements apart). THE CARD IS WHAT COUNTS. Prove the row's statement (the work); the ties are given (YtghemlokpfipoaaDoorTie.lean); close each card by the builder's one call (the guide's Derived/Test/ToyasCard.lean, 'card_holds'). Laid BY PROGRAM, IN A SANDBOX (cutbox-door.mjs). By AI agents, Wed Nov 11 2026. No macro, syntax, notation, axiom, sorry.
-/
import Derived.Test.YtghemlokpfipoaaDoorRows
import GoSem.ClaimSeven
namespace Go.Proofs.YtghemlokpfipoaaDoor
namespace Rows

/-- THE TIED CARD OF 'laws.FnExactTokenize'. -/
def fnExactTokenizeCard : Claim7 := { stood := { row := fnExactTokenizeRow, standIns := [], harness := (true, "788fc4902da2d813a83ea63d7fc94060dc702f29fcf2fada7c1c399995d0fecf"), looks := true }, kinds := [], alts := [], laidByText := true, laidKinds := [.data, .data, .data, .sentinel, .sentinel], laidTests := true, laidLooks := .later }
def FnExactTokenizeCardSaid : Prop := Claim7.holds Tryd.pinned (.plain (OpenSpec.ofChange fnExactTokenizeSpec)) fnExactTokenizeCard

/-- THE TIED CARD OF 'laws.FnTokens'. -/
def fnTokensCard : Claim7 := { stood := { row := fnTokensRow, standIns := [], harness := (true, "788fc4902da2d813a83ea63d7fc94060dc702f29fcf2fada7c1c399995d0fecf"), looks := true }, kinds := [], alts := [], laidByText := true, laidKinds := [.data, .data, .data, .sentinel, .sentinel], laidTests := true, laidLooks := .later }
def FnTokensCardSaid : Prop := Claim7.holds Tryd.pinned (.plain (OpenSpec.ofChange fnTokensSpec)) fnTokensCard

/-- THE SECOND FORM's CARD OF 'laws.FnExactTokenize'. -/
def fnExactTokenizeUptoCard : Claim7 := { stood := { row := fnExactTokenizeUptoRow, standIns := [], harness := (true, "788fc4902da2d813a83ea63d7fc94060dc702f29fcf2fada7c1c399995d0fecf"), looks := true }, kinds := [], alts := [], laidByText := true, laidKinds := [.data, .data, .data, .sentinel, .sentinel], laidTests := true, laidLooks := .later }
def FnExactTokenizeUptoCardSaid : Prop := Claim7.holds Tryd.pinned (.plain (OpenSpec.upto fnExactTokenizeSpec)) fnExactTokenizeUptoCard

/-- THE SECOND FORM's CARD OF 'laws.FnTokens'. -/
def fnTokensUptoCard : Claim7 := { stood := { row := fnTokensUptoRow, standIns := [], harness := (true, "788fc4902da2d813a83ea63d7fc94060dc702f29fcf2fada7c1c399995d0fecf"), looks := true }, kinds := [], alts := [], laidByText := true, laidKinds := [.data, .data, .data, .sentinel, .sentinel], laidTests := true, laidLooks := .later }
def FnTokensUptoCardSaid : Prop := Claim7.holds Tryd.pinned (.plain (OpenSpec.upto fnTokensSpec)) fnTokensUptoCard
end Rows
end Go.Proofs.YtghemlokpfipoaaDoor
