/-
  impl.Join; the law FnExactJoin: its walk.
-/
import Derived.Test.YtghemlokpfipoaaDoorYJB2
import Derived.Test.YtghemlokpfipoaaDoorYW3
namespace Go.Proofs.YtghemlokpfipoaaDoor
open Go.ChangeShapes Go.WideShapes Go.ChangeAt Go.RowKit
set_option linter.unusedVariables false
set_option linter.unusedSimpArgs false
set_option maxRecDepth 100000

theorem joinB_bound (xs : List ByteArray) (sep : ByteArray) (hn : costS xs ≤ 33554432) (hs : sep.size ≤ 1048576) : (joinB xs sep).length ≤ 70368744177664 := by
  have h1 := joinB_le xs sep
  have h3 : sep.size * xs.length ≤ 1048576 * 33554432 := Nat.mul_le_mul hs (by unfold costS at hn; omega)
  unfold costS at hn
  omega

theorem implJoin (v : Value) (xs : List ByteArray) (sep : ByteArray) (w : World) (h : Strs w v xs) (hn : costS xs ≤ 33554432) (hs : sep.size ≤ 1048576) :
    Calls Tryd.prog 23 #[v, .string sep] w fun e w' => e = .returned (.string ⟨(joinB xs sep).toArray⟩) ∧ Later w w' := by
  have hbd := joinB_bound xs sep hn hs
  obtain ⟨_, A, c, rfl, hlc, hcm, hc⟩ := h
  by_cases h0 : xs.length = 0
  · have hx : xs = [] := List.eq_nil_of_length_eq_zero h0
    subst hx
    have C := fun W => Tryd.strings_Join_none A c sep W
    clear hc hbd hn h0
    go_enter Tryd.func23, Tryd.ntmps23
    go_wp2_with fail
    refine (C _).mono ?_; rintro r w1 ⟨rfl, rfl⟩
    go_wp2_with fail
    go_ret
    exact ⟨rfl, Later.rfl' _⟩
  · obtain ⟨b, off, rfl, hb, hcell⟩ := hc (by
      intro e
      apply h0
      have := congrArg List.length e
      simpa using this)
    have C := Tryd.strings_Join b off c xs sep w (fun j x hx => hcell j _ (by rw [List.getElem?_map, hx]; rfl)) hb (by unfold costS at hn; omega) hlc (by unfold joinB at hbd; omega)
    have HC := Lib.hid C
    clear C hc hcell hbd hn h0
    go_enter Tryd.func23, Tryd.ntmps23
    go_wp2_with fail
    refine HC.out.mono ?_; rintro r w1 ⟨rfl, hb1⟩
    have HB := Lib.hid hb1
    clear hb1
    go_wp2_with fail
    go_ret
    exact ⟨rfl, HB.out⟩

end Go.Proofs.YtghemlokpfipoaaDoor
