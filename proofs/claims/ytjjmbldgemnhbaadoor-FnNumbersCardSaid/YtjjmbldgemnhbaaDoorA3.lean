/-
  Lists of strings: the walks of l1Has, IndexOf, AllDistinct, and of the laws' own szStringS, eqStringS, toStringS.
-/
import Derived.Test.YtjjmbldgemnhbaaDoorFrame
import Derived.Test.YtjjmbldgemnhbaaDoorPlain
import Derived.Deep.QuietTactic
import Derived.BigQuiet
import Derived.Outline
namespace Go.Proofs.YtjjmbldgemnhbaaDoor
open Go.ChangeShapes Go.WideShapes Go.ChangeAt Go.RowKit
set_option linter.unusedVariables false
set_option linter.unusedSimpArgs false

end Go.Proofs.YtjjmbldgemnhbaaDoor
