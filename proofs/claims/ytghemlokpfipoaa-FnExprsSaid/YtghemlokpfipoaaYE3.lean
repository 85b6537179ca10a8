/-
  Expressions: toExpr; eqExpr of the laws; EqualExpr: the walks.
-/
import Derived.Test.YtghemlokpfipoaaYE2
import Derived.Deep.QuietTactic
import Derived.BigQuiet
import Derived.StillTailTactics
import Derived.Outline
namespace Go.Proofs.Ytghemlokpfipoaa
open Go.ChangeShapes Go.WideShapes Go.ChangeAt Go.RowKit
set_option linter.unusedVariables false
set_option linter.unusedSimpArgs false

theorem ExsAt.form {w : World} {S : Nat → Prop} {v : Value} {args : List Ex} (h : ExsAt w S v args) : ∃ A c, v = .slice A args.length c ∧ args.length ≤ c ∧ c ≤ 9223372036854775807 := by
  obtain ⟨A, c, F, e, h1, h2, _⟩ := h
  exact ⟨A, c, e, h1, h2⟩

def ExEqQ (f : FuncId) (w : World) (e : Ex) (cs : List Value) : Prop := ∀ (S : Nat → Prop) (e' : Ex) (cs' : List Value), ExAt w S e' cs' → ∀ W, Later w W →
  Calls Try.prog f #[.agg cs.toArray, .agg cs'.toArray] W fun r w' => r = .returned (.bool (e.eqv e')) ∧ Later W w'

theorem ExsAt.q {w : World} {S : Nat → Prop} {v : Value} {args : List Ex} (h : ExsAt w S v args) : ExsQ w S (fun _ _ => True) v args := h.with_ fun _ _ _ _ => trivial

end Go.Proofs.Ytghemlokpfipoaa
