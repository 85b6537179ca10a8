/-
  CheckedNumber; the laws on functions of numbers and texts that answer a value: their walks.
-/
import Derived.Test.YtefhaochkfodnaaV7
namespace Go.Proofs.Ytefhaochkfodnaa
open Go.ChangeShapes Go.WideShapes Go.ChangeAt Go.RowKit
set_option linter.unusedVariables false
set_option linter.unusedSimpArgs false

/-- An integer that is a number of the program's. -/
def numB (n : Int) : Bool := decide (-1000000000 ≤ n) && decide (n ≤ 1000000000)

theorem specNum (n : Int) (W : World) : Calls Try.prog 58 #[.int .i64 n] W fun r w' => r = .returned (.bool (numB n)) ∧ W = w' := by
  by_cases h1 : -1000000000 ≤ n
  · by_cases h2 : n ≤ 1000000000
    · have HV : Hid (numB n = true) := by unfold Hid numB; simp [h1, h2]
      go_enter Try.func58, Try.ntmps58
      go_wp2
      go_ret
      exact ⟨ret_bool (by first | exact HV.out.symm | (rw [HV.out]; simp; omega)), rfl⟩
    · have HV : Hid (numB n = false) := by unfold Hid numB; simp [h1, h2]
      have h2' : 1000000000 < n := by omega
      clear h2
      go_enter Try.func58, Try.ntmps58
      go_wp2
      go_ret
      exact ⟨ret_bool (by first | exact HV.out.symm | (rw [HV.out]; simp; omega)), rfl⟩
  · have HV : Hid (numB n = false) := by unfold Hid numB; simp [h1]
    have h1' : n < -1000000000 := by omega
    clear h1
    go_enter Try.func58, Try.ntmps58
    go_wp2
    go_ret
    exact ⟨ret_bool (by first | exact HV.out.symm | (rw [HV.out]; simp; omega)), rfl⟩


theorem implNum (n : Int) (W : World) : Calls Try.prog 63 #[.int .i64 n] W fun r w' => r = .returned (.bool (numB n)) ∧ W = w' := by
  by_cases h1 : -1000000000 ≤ n
  · by_cases h2 : n ≤ 1000000000
    · have HV : Hid (numB n = true) := by unfold Hid numB; simp [h1, h2]
      go_enter Try.func63, Try.ntmps63
      go_wp2
      go_ret
      exact ⟨ret_bool (by first | exact HV.out.symm | (rw [HV.out]; simp; omega)), rfl⟩
    · have HV : Hid (numB n = false) := by unfold Hid numB; simp [h1, h2]
      have h2' : 1000000000 < n := by omega
      clear h2
      go_enter Try.func63, Try.ntmps63
      go_wp2
      go_ret
      exact ⟨ret_bool (by first | exact HV.out.symm | (rw [HV.out]; simp; omega)), rfl⟩
  · have HV : Hid (numB n = false) := by unfold Hid numB; simp [h1]
    have h1' : n < -1000000000 := by omega
    clear h1
    go_enter Try.func63, Try.ntmps63
    go_wp2
    go_ret
    exact ⟨ret_bool (by first | exact HV.out.symm | (rw [HV.out]; simp; omega)), rfl⟩


end Go.Proofs.Ytefhaochkfodnaa
