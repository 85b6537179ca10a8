/-
  Rows of strings of the call's own, one beside the other; the law FnExactWithout: its walk.
-/
import Derived.Test.YtghemlokpfipoaaDoorYW1
import Derived.Test.YtghemlokpfipoaaDoorYW2
namespace Go.Proofs.YtghemlokpfipoaaDoor
open Go.ChangeShapes Go.WideShapes Go.ChangeAt Go.RowKit
set_option linter.unusedVariables false
set_option linter.unusedSimpArgs false

/-- A row of strings of the call's own, in the blocks from lo to hi. -/
def RowIn (w : World) (lo hi : Nat) (v : Value) (xs : List ByteArray) : Prop := w.ownsRow lo 9 1 v xs.length (xs.map .string) ∧ ∀ g, v.ownBlock = some g → g < hi
theorem rowIn_of_own {w w' : World} {xs : List ByteArray} {e : Ending} (h : OwnS w w' xs e) : ∃ v, e = .returned v ∧ RowIn w' w.heap.size w'.heap.size v xs := by
  obtain ⟨v, he, hv⟩ := h
  exact ⟨v, he, hv, fun g hg => (hv.lt g hg).2⟩
theorem RowIn.later {w w' : World} {lo hi : Nat} {v : Value} {xs : List ByteArray} (h : RowIn w lo hi v xs) (hb : Later w w') : RowIn w' lo hi v xs := ⟨own_later h.1 hb, h.2⟩
theorem RowIn.other {w w' : World} {lo hi lo' hi' : Nat} {v u : Value} {xs ys : List ByteArray} (h : RowIn w lo hi v xs) (m : RowIn w lo' hi' u ys) (hg : w.grownBy w' u.ownBlock) (hd : hi ≤ lo' ∨ hi' ≤ lo) : RowIn w' lo hi v xs := by
  refine ⟨h.1.kept hg ?_, h.2⟩
  cases hv : v.ownBlock with
  | none => exact .inl rfl
  | some g =>
    refine .inr fun e => ?_
    have h1 := h.2 g hv
    have h2 := (h.1.lt g hv).1
    have h3 := m.2 g e.symm
    have h4 := (m.1.lt g e.symm).1
    omega
theorem RowIn.strs {w : World} {lo hi : Nat} {v : Value} {xs : List ByteArray} (h : RowIn w lo hi v xs) (hf : ∀ x ∈ xs, x.size ≤ 9223372036854775807) : Strs w v xs := Strs.of_own hf h.1
theorem RowIn.grown {w w1 w2 : World} {lo hi : Nat} {v : Value} {xs : List ByteArray} (m : RowIn w1 lo hi v xs) (l : Later w w1) (hlo : w.heap.size ≤ lo) (hg : w1.grownBy w2 v.ownBlock) : Later w w2 :=
  Below.grown l hg l.size (fun k hk => Nat.le_trans hlo (m.1.lt k hk).1)
end Go.Proofs.YtghemlokpfipoaaDoor
