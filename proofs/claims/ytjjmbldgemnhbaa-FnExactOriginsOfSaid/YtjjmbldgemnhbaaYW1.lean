/-
  Without: the walks.
-/
import Derived.Test.YtjjmbldgemnhbaaYMA
import Derived.Test.YtjjmbldgemnhbaaYOwn
namespace Go.Proofs.Ytjjmbldgemnhbaa
open Go.ChangeShapes Go.WideShapes Go.ChangeAt Go.RowKit
set_option linter.unusedVariables false
set_option linter.unusedSimpArgs false

/-- The strings of a list that another has not. -/
def withoutB (xs ys : List ByteArray) : List ByteArray := xs.filter fun x => !hasB ys x
theorem without_hit {xs ys : List ByteArray} {k : Nat} (hk : k < xs.length) (h : hasB ys xs[k] = true) : withoutB (xs.take (k + 1)) ys = withoutB (xs.take k) ys := by
  unfold withoutB
  rw [List.take_succ_eq_append_getElem hk, List.filter_append]
  simp [h]
theorem without_new {xs ys : List ByteArray} {k : Nat} (hk : k < xs.length) (h : hasB ys xs[k] = false) : withoutB (xs.take (k + 1)) ys = withoutB (xs.take k) ys ++ [xs[k]] := by
  unfold withoutB
  rw [List.take_succ_eq_append_getElem hk, List.filter_append]
  simp [h]
theorem without_le (xs ys : List ByteArray) : (withoutB xs ys).length ≤ xs.length := List.length_filter_le _ _

/-- What an append leaves. -/
theorem later_append {w wr w1 : World} {v : Value} {e n : Nat} {xs : List Value} (hb : Later w wr) (hown : wr.ownsRow w.heap.size e 1 v n xs) (hg : wr.grownBy w1 v.ownBlock) : Later w w1 :=
  Below.grown hb hg (hb.size) (fun k hk => (hown.lt k hk).1)

end Go.Proofs.Ytjjmbldgemnhbaa
