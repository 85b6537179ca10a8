/-
  ParseInt, ParseNumber: the walks; the laws FnExactParseInt, FnExactParseNumber: their walks.
-/
import Derived.Test.YtghemlokpfipoaaDoorYPR2
namespace Go.Proofs.YtghemlokpfipoaaDoor
open Go.ChangeShapes Go.WideShapes Go.ChangeAt Go.RowKit
set_option linter.unusedVariables false
set_option linter.unusedSimpArgs false
set_option maxRecDepth 100000


theorem specParseInt (s : ByteArray) (hs : s.size ≤ 1048576) (W : World) : Calls Tryd.prog 26 #[.string s] W fun r w' => r = optR (readB 12 s) ∧ Later W w' := by
  have C := fun w (hw : Later W w) => specRead s 12 (by omega) hs w
  obtain ⟨o, ho⟩ : ∃ o, o = readB 12 s := ⟨_, rfl⟩
  simp only [← ho] at C
  rw [← ho]
  have HC := Lib.hid C
  clear C ho
  cases o with
  | some n =>
    go_enter Tryd.func26, Tryd.ntmps26
    go_wp2_with fail
    refine (HC.out _ (Later.rfl' _)).mono ?_; rintro e w1 ⟨he, hb⟩
    have HL := Lib.hid hb
    simp only [optR] at he
    subst he
    clear hb
    go_wp2_with fail
    go_ret2
    exact ⟨rfl, HL.out⟩
  | none =>
    go_enter Tryd.func26, Tryd.ntmps26
    go_wp2_with fail
    refine (HC.out _ (Later.rfl' _)).mono ?_; rintro e w1 ⟨he, hb⟩
    have HL := Lib.hid hb
    simp only [optR] at he
    subst he
    clear hb
    go_wp2_with fail
    go_ret2
    exact ⟨rfl, HL.out⟩

end Go.Proofs.YtghemlokpfipoaaDoor
