/-
  Draws of numbers and texts: l1PickInt, l3Num, l3Text: the walks.
-/
import Derived.Test.YtjjmbldgemnhbaaYK3
import Derived.Test.YtjjmbldgemnhbaaYV7
namespace Go.Proofs.Ytjjmbldgemnhbaa
open Go.ChangeShapes Go.WideShapes Go.ChangeAt Go.RowKit
set_option linter.unusedVariables false
set_option linter.unusedSimpArgs false
set_option maxRecDepth 100000

def numList : List Int := [1000000000, -1000000000, 999999999, 500000000, 40000]
theorem numList_small : ∀ x ∈ numList, -1000000000 ≤ x ∧ x ≤ 1000000000 := by decide
def SmallN (g : Nat) (W w' : World) (r : Ending) : Prop := (∃ x : Int, (-1000000000 ≤ x ∧ x ≤ 1000000000) ∧ r = .returned (.int .i64 x)) ∧ CurAt w' g ∧ Chg (onlyB g) W w'
def textList : List ByteArray := [⟨#[]⟩, ⟨#[97]⟩, ⟨#[98]⟩, ⟨#[97, 98]⟩, ⟨#[104, 101, 108, 108, 111]⟩, ⟨#[116, 119, 101, 110, 116, 121, 32, 99, 104, 97, 114, 97, 99, 116, 101, 114, 115, 32, 111, 107]⟩, ⟨#[110, 105, 110, 101, 116, 101, 101, 110, 32, 99, 104, 97, 114, 97, 99, 116, 101, 114, 46]⟩]
theorem textList_small : ∀ s ∈ textList, s.size ≤ 100 := by decide
end Go.Proofs.Ytjjmbldgemnhbaa
