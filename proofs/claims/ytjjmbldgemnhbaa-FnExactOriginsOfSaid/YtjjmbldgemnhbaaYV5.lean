/-
  Laws on one value whose answer is a number or a truth: IsTrue, ColumnIndex, SizeOf, DepthOf: their walks.
-/
import Derived.Test.YtjjmbldgemnhbaaYV2
import Derived.Deep.RegionHeld3
namespace Go.Proofs.Ytjjmbldgemnhbaa
open Go.ChangeShapes Go.WideShapes Go.ChangeAt Go.RowKit
set_option linter.unusedVariables false
set_option linter.unusedSimpArgs false

theorem Ats.seven {w : World} {S : Nat → Prop} {d : Vl} {cs : List Value} (h : Ats w S (encV d) cs) : ∃ y0 y1 y2 y3 A1 n1 c1 A2 n2 c2 A3 n3 c3, cs = [.int .i64 y0, .int .i64 y1, .int .i64 y2, .string y3, .slice A1 n1 c1, .slice A2 n2 c2, .slice A3 n3 c3] := by
  obtain ⟨k, n, s, t, l, cl, r, rfl⟩ := Vl.shape d
  obtain ⟨A1, c1, A2, c2, A3, c3, rfl, _⟩ := h.val
  exact ⟨_, _, _, _, _, _, _, _, _, _, _, _, _, rfl⟩





end Go.Proofs.Ytjjmbldgemnhbaa
