/-
  Values: the laws' own equality at equal data: eqIntS, eqOrigin, eqOriginS, eqRow, eqRowS, eqValue, eqValueS.
-/
import Derived.Test.YtghemlokpfipoaaDoorD6
import Derived.Deep.QuietTactic
import Derived.BigQuiet
import Derived.StillTailTactics
namespace Go.Proofs.YtghemlokpfipoaaDoor
open Go.ChangeShapes Go.WideShapes Go.ChangeAt Go.RowKit
set_option linter.unusedVariables false
set_option linter.unusedSimpArgs false
set_option maxRecDepth 100000

theorem box2 {W w1 : World} {a b : Array Value} {t u : TypeId} (hb : Later ((W.alloc (.cells a t)).alloc (.cells b u)) w1) :
    Box w1 W.heap.size a.toList ∧ Box w1 (W.heap.size + 1) b.toList ∧ W.heap.size + 2 ≤ w1.heap.size ∧ Later W w1 := by
  have h1 := ((box_alloc W a t).later ((Later.rfl' _).alloc (.cells b u))).later hb
  have h2 := (box_alloc (W.alloc (.cells a t)) b u).later hb
  have hs := hb.size
  simp only [World.size_alloc] at h2 hs
  exact ⟨h1, h2, by omega, (((Later.rfl' _).alloc _).alloc _).trans hb⟩

end Go.Proofs.YtghemlokpfipoaaDoor
