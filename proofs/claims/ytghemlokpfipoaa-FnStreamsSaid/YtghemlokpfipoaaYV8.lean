/-
  CheckedNumber; the laws on functions of numbers and texts that answer a value: their walks.
-/
import Derived.Test.YtghemlokpfipoaaYV7
namespace Go.Proofs.Ytghemlokpfipoaa
open Go.ChangeShapes Go.WideShapes Go.ChangeAt Go.RowKit
set_option linter.unusedVariables false
set_option linter.unusedSimpArgs false

/-- An integer that is a number of the program's. -/
def numB (n : Int) : Bool := decide (-1000000000 ≤ n) && decide (n ≤ 1000000000)

theorem specNum (n : Int) (W : World) : Calls Try.prog 95 #[.int .i64 n] W fun r w' => r = .returned (.bool (numB n)) ∧ W = w' := by
  by_cases h1 : -1000000000 ≤ n
  · by_cases h2 : n ≤ 1000000000
    · have HV : Hid (numB n = true) := by unfold Hid numB; simp [h1, h2]
      go_enter Try.func95, Try.ntmps95
      go_wp2
      go_ret
      exact ⟨ret_bool (by first | exact HV.out.symm | (rw [HV.out]; simp; omega)), rfl⟩
    · have HV : Hid (numB n = false) := by unfold Hid numB; simp [h1, h2]
      have h2' : 1000000000 < n := by omega
      clear h2
      go_enter Try.func95, Try.ntmps95
      go_wp2
      go_ret
      exact ⟨ret_bool (by first | exact HV.out.symm | (rw [HV.out]; simp; omega)), rfl⟩
  · have HV : Hid (numB n = false) := by unfold Hid numB; simp [h1]
    have h1' : n < -1000000000 := by omega
    clear h1
    go_enter Try.func95, Try.ntmps95
    go_wp2
    go_ret
    exact ⟨ret_bool (by first | exact HV.out.symm | (rw [HV.out]; simp; omega)), rfl⟩

/-- A number, or the error of its range. -/
theorem specCheckedNumber (n : Int) (W : World) : Calls Try.prog 76 #[.int .i64 n] W fun r w' => r = .returned (leafA (if numB n then 1 else 6) (if numB n then n else 5) 0 ⟨#[]⟩) ∧ Later W w' := by
  have C := fun W => specNum n W
  cases hq : numB n with
  | true =>
    rw [hq] at C
    have HC := Lib.hid C
    clear C hq
    go_enter Try.func76, Try.ntmps76
    go_wp2_with fail
    refine (HC.out _).mono ?_; rintro e w1 ⟨rfl, rfl⟩
    go_wp2_with fail
    refine (specNumberValue _ _).mono ?_; rintro e w1 ⟨rfl, hb1⟩
    unfold leafA
    have B := (box_alloc W _ _).later hb1
    have L := Lib.hid (((Later.rfl' W).alloc _).trans hb1)
    clear hb1
    have b0 := B.cell (j := 0) rfl
    have f0 := B.free 0
    have b1 := B.cell (j := 1) rfl
    have f1 := B.free 1
    have b2 := B.cell (j := 2) rfl
    have f2 := B.free 2
    have b3 := B.cell (j := 3) rfl
    have f3 := B.free 3
    have b4 := B.cell (j := 4) rfl
    have f4 := B.free 4
    have b5 := B.cell (j := 5) rfl
    have f5 := B.free 5
    have b6 := B.cell (j := 6) rfl
    have f6 := B.free 6
    clear B
    go_wp2_with fail
    exact bodyPost_ret (v := leafA 1 n 0 ⟨#[]⟩) (by simp [results, Try.results76, go_sem, leafA, b0, b1, b2, b3, b4, b5, b6]) rfl ⟨rfl, later_setFrom (Nat.le_refl _) [.int .i64 1, .int .i64 n, .int .i64 0, .string ⟨#[]⟩, .slice none 0 0, .slice none 0 0, .slice none 0 0] _ 0 L.out⟩
  | false =>
    rw [hq] at C
    have HC := Lib.hid C
    clear C hq
    go_enter Try.func76, Try.ntmps76
    go_wp2_with fail
    refine (HC.out _).mono ?_; rintro e w1 ⟨rfl, rfl⟩
    go_wp2_with fail
    refine (specErrorValue _ _).mono ?_; rintro e w1 ⟨rfl, hb1⟩
    unfold leafA
    have B := (box_alloc W _ _).later hb1
    have L := Lib.hid (((Later.rfl' W).alloc _).trans hb1)
    clear hb1
    have b0 := B.cell (j := 0) rfl
    have f0 := B.free 0
    have b1 := B.cell (j := 1) rfl
    have f1 := B.free 1
    have b2 := B.cell (j := 2) rfl
    have f2 := B.free 2
    have b3 := B.cell (j := 3) rfl
    have f3 := B.free 3
    have b4 := B.cell (j := 4) rfl
    have f4 := B.free 4
    have b5 := B.cell (j := 5) rfl
    have f5 := B.free 5
    have b6 := B.cell (j := 6) rfl
    have f6 := B.free 6
    clear B
    go_wp2_with fail
    exact bodyPost_ret (v := leafA 6 5 0 ⟨#[]⟩) (by simp [results, Try.results76, go_sem, leafA, b0, b1, b2, b3, b4, b5, b6]) rfl ⟨rfl, later_setFrom (Nat.le_refl _) [.int .i64 6, .int .i64 5, .int .i64 0, .string ⟨#[]⟩, .slice none 0 0, .slice none 0 0, .slice none 0 0] _ 0 L.out⟩

theorem implNum (n : Int) (W : World) : Calls Try.prog 66 #[.int .i64 n] W fun r w' => r = .returned (.bool (numB n)) ∧ W = w' := by
  by_cases h1 : -1000000000 ≤ n
  · by_cases h2 : n ≤ 1000000000
    · have HV : Hid (numB n = true) := by unfold Hid numB; simp [h1, h2]
      go_enter Try.func66, Try.ntmps66
      go_wp2
      go_ret
      exact ⟨ret_bool (by first | exact HV.out.symm | (rw [HV.out]; simp; omega)), rfl⟩
    · have HV : Hid (numB n = false) := by unfold Hid numB; simp [h1, h2]
      have h2' : 1000000000 < n := by omega
      clear h2
      go_enter Try.func66, Try.ntmps66
      go_wp2
      go_ret
      exact ⟨ret_bool (by first | exact HV.out.symm | (rw [HV.out]; simp; omega)), rfl⟩
  · have HV : Hid (numB n = false) := by unfold Hid numB; simp [h1]
    have h1' : n < -1000000000 := by omega
    clear h1
    go_enter Try.func66, Try.ntmps66
    go_wp2
    go_ret
    exact ⟨ret_bool (by first | exact HV.out.symm | (rw [HV.out]; simp; omega)), rfl⟩

/-- A number, or the error of its range. -/
theorem implCheckedNumber (n : Int) (W : World) : Calls Try.prog 85 #[.int .i64 n] W fun r w' => r = .returned (leafA (if numB n then 1 else 6) (if numB n then n else 5) 0 ⟨#[]⟩) ∧ Later W w' := by
  have C := fun W => implNum n W
  cases hq : numB n with
  | true =>
    rw [hq] at C
    have HC := Lib.hid C
    clear C hq
    go_enter Try.func85, Try.ntmps85
    go_wp2_with fail
    refine (HC.out _).mono ?_; rintro e w1 ⟨rfl, rfl⟩
    go_wp2_with fail
    refine (implNumberValue _ _).mono ?_; rintro e w1 ⟨rfl, hb1⟩
    unfold leafA
    have B := (box_alloc W _ _).later hb1
    have L := Lib.hid (((Later.rfl' W).alloc _).trans hb1)
    clear hb1
    have b0 := B.cell (j := 0) rfl
    have f0 := B.free 0
    have b1 := B.cell (j := 1) rfl
    have f1 := B.free 1
    have b2 := B.cell (j := 2) rfl
    have f2 := B.free 2
    have b3 := B.cell (j := 3) rfl
    have f3 := B.free 3
    have b4 := B.cell (j := 4) rfl
    have f4 := B.free 4
    have b5 := B.cell (j := 5) rfl
    have f5 := B.free 5
    have b6 := B.cell (j := 6) rfl
    have f6 := B.free 6
    clear B
    go_wp2_with fail
    exact bodyPost_ret (v := leafA 1 n 0 ⟨#[]⟩) (by simp [results, Try.results85, go_sem, leafA, b0, b1, b2, b3, b4, b5, b6]) rfl ⟨rfl, later_setFrom (Nat.le_refl _) [.int .i64 1, .int .i64 n, .int .i64 0, .string ⟨#[]⟩, .slice none 0 0, .slice none 0 0, .slice none 0 0] _ 0 L.out⟩
  | false =>
    rw [hq] at C
    have HC := Lib.hid C
    clear C hq
    go_enter Try.func85, Try.ntmps85
    go_wp2_with fail
    refine (HC.out _).mono ?_; rintro e w1 ⟨rfl, rfl⟩
    go_wp2_with fail
    refine (implErrorValue _ _).mono ?_; rintro e w1 ⟨rfl, hb1⟩
    unfold leafA
    have B := (box_alloc W _ _).later hb1
    have L := Lib.hid (((Later.rfl' W).alloc _).trans hb1)
    clear hb1
    have b0 := B.cell (j := 0) rfl
    have f0 := B.free 0
    have b1 := B.cell (j := 1) rfl
    have f1 := B.free 1
    have b2 := B.cell (j := 2) rfl
    have f2 := B.free 2
    have b3 := B.cell (j := 3) rfl
    have f3 := B.free 3
    have b4 := B.cell (j := 4) rfl
    have f4 := B.free 4
    have b5 := B.cell (j := 5) rfl
    have f5 := B.free 5
    have b6 := B.cell (j := 6) rfl
    have f6 := B.free 6
    clear B
    go_wp2_with fail
    exact bodyPost_ret (v := leafA 6 5 0 ⟨#[]⟩) (by simp [results, Try.results85, go_sem, leafA, b0, b1, b2, b3, b4, b5, b6]) rfl ⟨rfl, later_setFrom (Nat.le_refl _) [.int .i64 6, .int .i64 5, .int .i64 0, .string ⟨#[]⟩, .slice none 0 0, .slice none 0 0, .slice none 0 0] _ 0 L.out⟩

end Go.Proofs.Ytghemlokpfipoaa
