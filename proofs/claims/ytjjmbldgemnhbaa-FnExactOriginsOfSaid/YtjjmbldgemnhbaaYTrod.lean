/-
  Arguments that are structs of one-cell fields.
-/
import Derived.Test.YtjjmbldgemnhbaaYBase
import Derived.Deep.Fields
namespace Go.Proofs.Ytjjmbldgemnhbaa
open Go.RowKit Go.ChangeShapes Go.WideShapes

section
variable {H : Type} {enc : TypeId × Value → H} {P : Program} {w : World} {sp : Nat → Bool} {held : Bool}
/-- A struct of one-cell fields, cell by cell. -/
theorem struct_cells {t : TypeId} {fs : Array Field} {fuel : Nat} {cs : List Value} {x : DataW H × List MemPlace} (hu : P.underlying t = some (.struct fs)) (hone : Go.Deep.oneCellFields P fs = true) (hC : P.cellsOf t = fs.size)
    (h : DataW.trod enc P w 0 sp held fuel t cs = some x) :
    ∃ m, fuel = m + 1 ∧ cs.length = fs.size ∧ ∀ (i : Nat) (ty : TypeId), (fs[i]?).map Field.type = some ty → ∃ c y, cs[i]? = some c ∧ DataW.trod enc P w 0 sp held m ty [c] = some y := by
  obtain ⟨xs, m, hm, _, hl, hxl, hf⟩ := DataW.trod_struct hu h
  rw [hC] at hl
  refine ⟨m, hm, hl, fun i ty hi => ?_⟩
  obtain ⟨f, hfi, rfl⟩ := Option.map_eq_some_iff.1 hi
  have hlt : i < fs.size := (Array.getElem?_eq_some_iff.1 hfi).1
  obtain ⟨ho, hk⟩ := Go.Deep.hone_of hone i f hfi
  have h1 := hf i f hfi
  rw [ho, hk] at h1
  have e1 : (cs.drop i).take 1 = [cs[i]'(by omega)] := by rw [List.drop_eq_getElem_cons (by omega)]; rfl
  rw [e1, List.getElem?_eq_getElem (by omega)] at h1
  exact ⟨_, _, List.getElem?_eq_getElem (by omega), h1⟩
end
end Go.Proofs.Ytjjmbldgemnhbaa
