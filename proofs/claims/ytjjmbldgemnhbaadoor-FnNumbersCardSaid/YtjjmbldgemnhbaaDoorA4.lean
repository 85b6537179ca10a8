/-
  The laws' own helpers on lists of strings: szStringS, eqStringS, toStringS; AllDistinct.
-/
import Derived.Test.YtjjmbldgemnhbaaDoorA3
namespace Go.Proofs.YtjjmbldgemnhbaaDoor
open Go.ChangeShapes Go.WideShapes Go.ChangeAt Go.RowKit
set_option linter.unusedVariables false
set_option linter.unusedSimpArgs false

/-- A slice of strings of the call's own. -/
def OwnS (w w' : World) (xs : List ByteArray) (e : Ending) : Prop := ∃ v, e = .returned v ∧ w'.ownsRow w.heap.size 9 1 v xs.length (xs.map .string)

theorem info_string : (Tryd.prog.info? 9).map (fun i => (i.zero, i.size, i.bytes)) = some (some (.string ByteArray.empty), 1, 16) := by kernel_rfl
end Go.Proofs.YtjjmbldgemnhbaaDoor
