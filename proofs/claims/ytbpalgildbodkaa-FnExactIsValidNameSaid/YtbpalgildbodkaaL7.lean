/-
  FnExactIsReserved, FnExactIsValidName: the laws.
-/
import Derived.Test.YtbpalgildbodkaaA7
namespace Go.Proofs.Ytbpalgildbodkaa
open Go.ChangeShapes Go.WideShapes Go.ChangeAt Go.RowKit
open Go.ChangeMaps (open_string shut_string)
set_option linter.unusedVariables false
set_option linter.unusedSimpArgs false

theorem walk_FnExactIsReserved (s : ByteArray) (w : World) (hs : s.size ≤ maxLen) : Calls Try.prog 9 #[.string s] w fun e w' => e = .returned (.bool true) ∧ Later w w' := by
  by_cases h : 1048576 < s.size
  · go_enter Try.func9, Try.ntmps9
    go_wp2_with fail
    go_ret
    exact ⟨rfl, Later.rfl' _⟩
  · go_enter Try.func9, Try.ntmps9
    go_wp2_with (first | (go_at_call 25; refine (specIsReserved _ _ hs).mono ?_; rintro e w1 ⟨rfl, hb1⟩) | (go_at_call 26; refine (implIsReserved _ _ hs).mono ?_; rintro e w2 ⟨rfl, hb2⟩))
    go_ret
    exact ⟨rfl, hb1.trans hb2⟩

theorem walk_FnExactIsValidName (s : ByteArray) (w : World) (hs : s.size ≤ maxLen) : Calls Try.prog 11 #[.string s] w fun e w' => e = .returned (.bool true) ∧ Later w w' := by
  by_cases h : 1048576 < s.size
  · go_enter Try.func11, Try.ntmps11
    go_wp2_with fail
    go_ret
    exact ⟨rfl, Later.rfl' _⟩
  · go_enter Try.func11, Try.ntmps11
    go_wp2_with (first | (go_at_call 32; refine (specIsValidName _ _ hs).mono ?_; rintro e w1 ⟨rfl, hb1⟩) | (go_at_call 33; refine (implIsValidName _ _ hs).mono ?_; rintro e w2 ⟨rfl, hb2⟩))
    go_ret
    exact ⟨rfl, hb1.trans hb2⟩

end Go.Proofs.Ytbpalgildbodkaa
