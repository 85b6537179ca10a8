/-
  Expressions: HasEffect: the walks. The laws FnExactNodeCount, FnExactNestingOf, FnExactEqualExpr, FnExactHasEffect: their walks.
-/
import Derived.Test.YtghemlokpfipoaaYE4
namespace Go.Proofs.Ytghemlokpfipoaa
open Go.ChangeShapes Go.WideShapes Go.ChangeAt Go.RowKit
set_option linter.unusedVariables false
set_option linter.unusedSimpArgs false
set_option maxRecDepth 100000

theorem eff_ways (k n : Int) (t : ByteArray) (args : List Ex) :
    (k = 5 ∧ ((t.toList == [99, 108, 111, 99, 107]) = true) ∧ Hid (Ex.hasEff (.mk k n t args) = true)) ∨
    (k = 5 ∧ ((t.toList == [99, 108, 111, 99, 107]) = false) ∧ ((t.toList == [99, 104, 97, 110, 99, 101]) = true) ∧ Hid (Ex.hasEff (.mk k n t args) = true)) ∨
    (k = 5 ∧ ((t.toList == [99, 108, 111, 99, 107]) = false) ∧ ((t.toList == [99, 104, 97, 110, 99, 101]) = false) ∧ ((t.toList == [102, 105, 108, 101]) = true) ∧ Hid (Ex.hasEff (.mk k n t args) = true)) ∨
    (k = 5 ∧ ((t.toList == [99, 108, 111, 99, 107]) = false) ∧ ((t.toList == [99, 104, 97, 110, 99, 101]) = false) ∧ ((t.toList == [102, 105, 108, 101]) = false) ∧ Hid (Ex.hasEff (.mk k n t args) = Ex.hasEffs args)) ∨
    ((k == 5) = false ∧ Hid (Ex.hasEff (.mk k n t args) = Ex.hasEffs args)) := by
  by_cases hk : k = 5
  · rcases Bool.eq_false_or_eq_true (t.toList == [99, 108, 111, 99, 107]) with h1 | h1
    · exact .inl ⟨hk, h1, by unfold Hid; simp [Ex.hasEff, hk, isEff, h1]⟩
    rcases Bool.eq_false_or_eq_true (t.toList == [99, 104, 97, 110, 99, 101]) with h2 | h2
    · exact .inr (.inl ⟨hk, h1, h2, by unfold Hid; simp [Ex.hasEff, hk, isEff, h1, h2]⟩)
    rcases Bool.eq_false_or_eq_true (t.toList == [102, 105, 108, 101]) with h3 | h3
    · exact .inr (.inr (.inl ⟨hk, h1, h2, h3, by unfold Hid; simp [Ex.hasEff, hk, isEff, h1, h2, h3]⟩))
    · exact .inr (.inr (.inr (.inl ⟨hk, h1, h2, h3, by unfold Hid; simp [Ex.hasEff, hk, isEff, h1, h2, h3]⟩)))
  · exact .inr (.inr (.inr (.inr ⟨by simpa using hk, by unfold Hid; simp [Ex.hasEff, hk]⟩)))

def EffQ (f : FuncId) (w : World) (e : Ex) (cs : List Value) : Prop := ∀ W, Later w W → Calls Try.prog f #[.agg cs.toArray] W fun r w' => r = .returned (.bool e.hasEff) ∧ Later W w'


theorem eff_ways3 (k n : Int) (t : ByteArray) (args : List Ex) :
    (k = 5 ∧ Hid (isEff t = true) ∧ Hid (Ex.hasEff (.mk k n t args) = true)) ∨
    (k = 5 ∧ Hid (isEff t = false) ∧ Hid (Ex.hasEff (.mk k n t args) = Ex.hasEffs args)) ∨
    ((k == 5) = false ∧ Hid (Ex.hasEff (.mk k n t args) = Ex.hasEffs args)) := by
  unfold Hid
  by_cases hk : k = 5
  · cases he : isEff t with
    | true => exact .inl ⟨hk, rfl, by simp [Ex.hasEff, hk, he]⟩
    | false => exact .inr (.inl ⟨hk, rfl, by simp [Ex.hasEff, hk, he]⟩)
  · exact .inr (.inr ⟨by simpa using hk, by simp [Ex.hasEff, hk]⟩)


end Go.Proofs.Ytghemlokpfipoaa
