/-
  The laws FnExactNodeCount, FnExactNestingOf, FnExactHasEffect, FnExactEqualExpr: their walks.
-/
import Derived.Test.YtghemlokpfipoaaYE5
import Derived.Deep.RegionHeld3
namespace Go.Proofs.Ytghemlokpfipoaa
open Go.ChangeShapes Go.WideShapes Go.ChangeAt Go.RowKit
set_option linter.unusedVariables false
set_option linter.unusedSimpArgs false
set_option maxRecDepth 100000

/-- What a function answers for an expression, in the world in which it lies. -/
def Answers (f : FuncId) (e : Ex) (r : Ending) : Prop := ∀ (W : World) (S : Nat → Prop) (cs : List Value), ExAt W S e cs → Calls Try.prog f #[.agg cs.toArray] W fun x w' => x = r ∧ Later W w'

end Go.Proofs.Ytghemlokpfipoaa
