/-
  The laws' marks on lists of strings: markText, markStringS, heldStringS.
-/
import Derived.Test.YtghemlokpfipoaaDoorYMA
import Derived.Test.YtghemlokpfipoaaDoorYOwn
import Derived.Test.YtghemlokpfipoaaDoorYMD
import Derived.Laws.BytesString
import Derived.Deep.RegionHeld3
namespace Go.Proofs.YtghemlokpfipoaaDoor
open Go.ChangeShapes Go.WideShapes Go.ChangeAt Go.RowKit
set_option linter.unusedVariables false
set_option linter.unusedSimpArgs false

theorem own_shape {w : World} {lo e n : Nat} {v : Value} {xs : List Value} (h : w.ownsRow lo e 1 v n xs) : ∃ A c, v = .slice A n c ∧ n ≤ c ∧ c ≤ 9223372036854775807 ∧ (0 < n → ∃ g, A = some ⟨g, 0, none⟩) := by
  rcases h.2 with ⟨rfl, h0⟩ | ⟨g, cap, cur, rfl, hb, hg, hnc, hm, hs, htake⟩
  · subst h0
    exact ⟨none, 0, rfl, Nat.le_refl _, by omega, fun h => absurd h (by omega)⟩
  · exact ⟨_, _, rfl, hnc, by simp only [maxLen] at hm; omega, fun _ => ⟨g, rfl⟩⟩
theorem grown_refl (w : World) (row : Option Nat) : w.grownBy w row := ⟨rfl, rfl, rfl, Nat.le_refl _, fun _ _ _ => rfl⟩
theorem grown_later {w a b : World} {row : Option Nat} (h : w.grownBy a row) (hb : Later a b) : w.grownBy b row :=
  ⟨(Below.os hb).trans h.os, (Below.tape hb).trans h.tape, (Below.output hb).trans h.output, Nat.le_trans h.size hb.size, fun k hk hne => (Below.block hb k (Nat.lt_of_lt_of_le hk h.size)).trans (h.block k hk hne)⟩
theorem grown_set {w a : World} {g o : Nat} {u : Value} (h : w.grownBy a (some g)) : w.grownBy (a.setCell ⟨g, o, none⟩ u) (some g) := by
  have hs := Below.setCell (Below.refl 0 a) (p := ⟨g, o, none⟩) (Nat.zero_le _) u
  refine ⟨(Below.os hs).trans h.os, (Below.tape hs).trans h.tape, (Below.output hs).trans h.output, by rw [World.size_setCell]; exact h.size, fun k hk hne => ?_⟩
  rw [Below.heap_setCell _ _ _ _ (by intro e; exact hne (by rw [e]))]
  exact h.block k hk hne

def marksL (k n : Nat) : List ByteArray := (List.range n).map fun i => markB (k + i)
def marked (k : Nat) (xs : List Value) (j : Nat) : List Value := (marksL k j).map .string ++ xs.drop j
theorem length_marksL (k n : Nat) : (marksL k n).length = n := by simp [marksL]
theorem marked_zero (k : Nat) (xs : List Value) : marked k xs 0 = xs := by simp [marked, marksL]
theorem marked_all {k n : Nat} {xs : List Value} (h : xs.length = n) : marked k xs n = (marksL k n).map .string := by simp [marked, h]
theorem marked_set {k j : Nat} {xs : List Value} (hj : j < xs.length) : (marked k xs j).set j (.string (markB (k + j))) = marked k xs (j + 1) := by
  unfold marked
  rw [List.set_append_right _ _ (by simp [length_marksL]), List.length_map, length_marksL, Nat.sub_self]
  rw [List.drop_eq_getElem_cons hj, List.set_cons_zero]
  simp [marksL, List.range_succ]

end Go.Proofs.YtghemlokpfipoaaDoor
