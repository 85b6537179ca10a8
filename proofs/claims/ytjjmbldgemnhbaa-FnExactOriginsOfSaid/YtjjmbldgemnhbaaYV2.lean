/-
  Values: SizeOf, DepthOf: the walks.
-/
import Derived.Test.YtjjmbldgemnhbaaYV1
namespace Go.Proofs.Ytjjmbldgemnhbaa
open Go.ChangeShapes Go.WideShapes Go.ChangeAt Go.RowKit
set_option linter.unusedVariables false
set_option linter.unusedSimpArgs false



end Go.Proofs.Ytjjmbldgemnhbaa
