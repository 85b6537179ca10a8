/-
  IsValidName: the walks.
-/
import Derived.Test.YthoflpaogfdkoaaA6
namespace Go.Proofs.Ythoflpaogfdkoaa
open Go.ChangeShapes Go.WideShapes Go.ChangeAt Go.RowKit
set_option linter.unusedVariables false
set_option linter.unusedSimpArgs false

theorem word_true {s : ByteArray} (h : wordS s = true) (h8 : s.size ≤ 8) : wordI s = true := by
  simp only [wordS, Bool.and_eq_true, decide_eq_true_eq] at h
  simp only [wordI, h.1, Bool.true_and, Bool.and_eq_true, decide_eq_true_eq]
  omega
theorem word_long {s : ByteArray} (h8 : ¬ s.size ≤ 8) : wordI s = false := by
  simp [wordI, h8]
theorem word_false {s : ByteArray} (h : wordS s = false) : wordI s = false := by
  simp only [wordS, Bool.and_eq_false_iff, decide_eq_false_iff_not] at h
  simp only [wordI, Bool.and_eq_false_iff, decide_eq_false_iff_not]
  rcases h with h | h
  · exact .inl h
  · exact .inr (.inl (by omega))

theorem specIsValidName (s : ByteArray) (w : World) (hs : s.size ≤ maxLen) : Calls Try.prog 183 #[.string s] w fun e w' => e = .returned (.bool (validName s)) ∧ Later w w' := by
  rcases Bool.eq_false_or_eq_true (wordS s) with hq | hq
  · by_cases h8 : s.size ≤ 8
    · have h8' : (s.size : Int) ≤ 8 := by omega
      have HV : Hid (validName s = !isReserved s) := by unfold Hid; simp [validName, word_true hq h8]
      clear h8
      have HC := specl2Shape s w hs
      rw [hq] at HC
      clear hq
      go_enter Try.func183, Try.ntmps183
      go_wp2_with (first | (go_at_call 215; refine HC.mono ?_; rintro e w1 ⟨rfl, hb1⟩) | (go_at_call 216; refine (specIsReserved _ _ hs).mono ?_; rintro e w2 ⟨rfl, hb2⟩))
      go_ret
      exact ⟨ret_bool HV.out.symm, hb1.trans hb2⟩
    · have h8' : decide ((s.size : Int) ≤ 8) = false := by simp; omega
      have h8'' : (8 : Int) < (s.size : Int) := by omega
      have HV : Hid (validName s = false) := by unfold Hid; simp [validName, word_long h8]
      clear h8
      have HC := specl2Shape s w hs
      rw [hq] at HC
      clear hq
      go_enter Try.func183, Try.ntmps183
      go_wp2_with (first | (go_at_call 215; refine HC.mono ?_; rintro e w1 ⟨rfl, hb1⟩))
      go_ret
      exact ⟨ret_bool HV.out.symm, hb1⟩
  · have HV : Hid (validName s = false) := by unfold Hid; simp [validName, word_false hq]
    have HC := specl2Shape s w hs
    rw [hq] at HC
    clear hq
    go_enter Try.func183, Try.ntmps183
    go_wp2_with (first | (go_at_call 215; refine HC.mono ?_; rintro e w1 ⟨rfl, hb1⟩))
    go_ret
    exact ⟨ret_bool HV.out.symm, hb1⟩

theorem implIsValidName (s : ByteArray) (w : World) (hs : s.size ≤ maxLen) : Calls Try.prog 181 #[.string s] w fun e w' => e = .returned (.bool (validName s)) ∧ Later w w' := by
  rcases Bool.eq_false_or_eq_true (wordI s) with hq | hq
  · have HV : Hid (validName s = !isReserved s) := by unfold Hid; simp [validName, hq]
    have HC := implisWord s w hs
    rw [hq] at HC
    clear hq
    go_enter Try.func181, Try.ntmps181
    go_wp2_with (first | (go_at_call 213; refine HC.mono ?_; rintro e w1 ⟨rfl, hb1⟩) | (go_at_call 214; refine (implIsReserved _ _ hs).mono ?_; rintro e w2 ⟨rfl, hb2⟩))
    go_ret
    exact ⟨ret_bool HV.out.symm, hb1.trans hb2⟩
  · have HV : Hid (validName s = false) := by unfold Hid; simp [validName, hq]
    have HC := implisWord s w hs
    rw [hq] at HC
    clear hq
    go_enter Try.func181, Try.ntmps181
    go_wp2_with (first | (go_at_call 213; refine HC.mono ?_; rintro e w1 ⟨rfl, hb1⟩))
    go_ret
    exact ⟨ret_bool HV.out.symm, hb1⟩
end Go.Proofs.Ythoflpaogfdkoaa
