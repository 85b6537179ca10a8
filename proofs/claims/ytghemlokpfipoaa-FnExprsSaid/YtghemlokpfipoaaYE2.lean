/-
  Expressions: szExpr, toExpr, eqExpr of the laws; EqualExpr: the walks.
-/
import Derived.Test.YtghemlokpfipoaaYE1
import Derived.Test.YtghemlokpfipoaaYOwn
import Derived.Handy
namespace Go.Proofs.Ytghemlokpfipoaa
open Go.ChangeShapes Go.WideShapes Go.ChangeAt Go.RowKit
set_option linter.unusedVariables false
set_option linter.unusedSimpArgs false

theorem exSzR_range (left : Int) (c : Nat) (h : 0 ≤ left) (h1 : left ≤ 1048576) : (szR left c = -1 ∧ left < c) ∨ (szR left c = left - c ∧ 0 ≤ left - c) := by
  unfold szR
  split
  · exact .inl ⟨rfl, by assumption⟩
  · exact .inr ⟨rfl, by omega⟩

theorem info_expr : (Try.prog.info? 67).map (fun i => (i.zero, i.size, i.bytes)) = some (some (.agg #[.int .i64 0, .int .i64 0, .string ByteArray.empty, .slice none 0 0]), 4, 56) := by kernel_rfl

/-- What toExpr returns: the same expression, in memory of its own. -/
def CopyOf (W w' : World) (e : Ex) (r : Ending) : Prop := ∃ y0 y1 y2 y3 y4 y5, r = .returned (.agg #[.int .i64 y0, .int .i64 y1, .string y2, .slice y3 y4 y5]) ∧ ExAt w' (fun b => W.heap.size ≤ b) e [.int .i64 y0, .int .i64 y1, .string y2, .slice y3 y4 y5]
def CopyOfS (W w' : World) (args : List Ex) (r : Ending) : Prop := ∃ A c, r = .returned (.slice A args.length c) ∧ ExsAt w' (fun b => W.heap.size ≤ b) (.slice A args.length c) args

end Go.Proofs.Ytghemlokpfipoaa
