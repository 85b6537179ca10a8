/-
  DERIVED. GIVEN WITH THE SEED: THE CARDS: each row of YtbpalgildbodkaaDoorRows.lean that lists a variable, with what it lists TIED to the program's text (the seventh form; the later family's looks); each row that meets fmt, with fmt's text TOLD by the authors' own Lean function (tested against real Go, not proved from fmt's source: count such statements apart). THE CARD IS WHAT COUNTS. Prove the row's statement (the work); the ties are given (YtbpalgildbodkaaDoorTie.lean); close each card by the builder's one call (the guide's Derived/Test/ToyasCard.lean, 'card_holds'). Laid BY PROGRAM, IN A SANDBOX (cutbox-door.mjs). By AI agents, Wed Nov 11 2026. No macro, syntax, notation, axiom, sorry.
-/
import Derived.Test.YtbpalgildbodkaaDoorRows
import GoSem.ClaimSeven
namespace Go.Proofs.YtbpalgildbodkaaDoor
namespace Rows

/-- THE TIED CARD OF 'laws.FnExactErrorName'. -/
def fnExactErrorNameCard : Claim7 := { stood := { row := fnExactErrorNameRow, standIns := [], harness := (true, "543fd326fa46153a025d77d7cb8f457216beda5ed18bcfe96557edf4ee6e590c"), looks := false }, kinds := [], alts := [], laidByText := true, laidKinds := [.widerDeep], laidTests := true, laidLooks := .later }
def FnExactErrorNameCardSaid : Prop := Claim7.holds Tryd.pinned (.plain (OpenSpec.ofChange fnExactErrorNameSpec)) fnExactErrorNameCard

/-- THE TIED CARD OF 'laws.FnExactErrorCode'. -/
def fnExactErrorCodeCard : Claim7 := { stood := { row := fnExactErrorCodeRow, standIns := [], harness := (true, "543fd326fa46153a025d77d7cb8f457216beda5ed18bcfe96557edf4ee6e590c"), looks := false }, kinds := [], alts := [], laidByText := true, laidKinds := [.widerDeep], laidTests := true, laidLooks := .later }
def FnExactErrorCodeCardSaid : Prop := Claim7.holds Tryd.pinned (.plain (OpenSpec.ofChange fnExactErrorCodeSpec)) fnExactErrorCodeCard

/-- THE SECOND FORM's CARD OF 'laws.FnExactErrorName'. -/
def fnExactErrorNameUptoCard : Claim7 := { stood := { row := fnExactErrorNameUptoRow, standIns := [], harness := (true, "543fd326fa46153a025d77d7cb8f457216beda5ed18bcfe96557edf4ee6e590c"), looks := false }, kinds := [], alts := [], laidByText := true, laidKinds := [.widerDeep], laidTests := true, laidLooks := .later }
def FnExactErrorNameUptoCardSaid : Prop := Claim7.holds Tryd.pinned (.plain (OpenSpec.upto fnExactErrorNameSpec)) fnExactErrorNameUptoCard

/-- THE SECOND FORM's CARD OF 'laws.FnExactErrorCode'. -/
def fnExactErrorCodeUptoCard : Claim7 := { stood := { row := fnExactErrorCodeUptoRow, standIns := [], harness := (true, "543fd326fa46153a025d77d7cb8f457216beda5ed18bcfe96557edf4ee6e590c"), looks := false }, kinds := [], alts := [], laidByText := true, laidKinds := [.widerDeep], laidTests := true, laidLooks := .later }
def FnExactErrorCodeUptoCardSaid : Prop := Claim7.holds Tryd.pinned (.plain (OpenSpec.upto fnExactErrorCodeSpec)) fnExactErrorCodeUptoCard
end Rows
end Go.Proofs.YtbpalgildbodkaaDoor
