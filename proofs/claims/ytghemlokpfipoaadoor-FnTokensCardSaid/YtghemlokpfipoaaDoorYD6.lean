/-
  Values: copies: toRowS, toValue, toValueS.
-/
import Derived.Test.YtghemlokpfipoaaDoorYD5
namespace Go.Proofs.YtghemlokpfipoaaDoor
open Go.ChangeShapes Go.WideShapes Go.ChangeAt Go.RowKit
set_option linter.unusedVariables false
set_option linter.unusedSimpArgs false

/-- What toValue returns: the same value, in memory of its own. -/
def CopyV (W w' : World) (d : Vl) (r : Ending) : Prop := ∃ k n s t A1 n1 c1 A2 n2 c2 A3 n3 c3, r = .returned (.agg #[.int .i64 k, .int .i64 n, .int .i64 s, .string t, .slice A1 n1 c1, .slice A2 n2 c2, .slice A3 n3 c3]) ∧
  Owns w' (fun b => W.heap.size ≤ b ∧ b < w'.heap.size) (encV d) [.int .i64 k, .int .i64 n, .int .i64 s, .string t, .slice A1 n1 c1, .slice A2 n2 c2, .slice A3 n3 c3]
end Go.Proofs.YtghemlokpfipoaaDoor
