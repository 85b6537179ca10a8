/-
  The law FnExactSplitByte: its walk.
-/
import Derived.Test.YtpkplgpjckmciaaDoorSB2
namespace Go.Proofs.YtpkplgpjckmciaaDoor
open Go.ChangeShapes Go.WideShapes Go.ChangeAt Go.RowKit
set_option linter.unusedVariables false
set_option linter.unusedSimpArgs false
set_option maxRecDepth 100000

theorem cntS_eq (l : List ByteArray) : Dt.cnts (l.flatMap encS) = l.length := by
  induction l with
  | nil => rfl
  | cons a l ih =>
    rw [List.flatMap_cons, cnts_append, ih, List.length_cons]
    simp [encS, Dt.cnts, Dt.cnt]
    omega
end Go.Proofs.YtpkplgpjckmciaaDoor
