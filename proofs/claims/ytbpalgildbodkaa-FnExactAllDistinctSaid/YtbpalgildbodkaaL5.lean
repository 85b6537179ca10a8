/-
  FnExactIndexOf, FnExactAllDistinct: the laws' walks.
-/
import Derived.Test.YtbpalgildbodkaaA5
namespace Go.Proofs.Ytbpalgildbodkaa
open Go.ChangeShapes Go.WideShapes Go.ChangeAt Go.RowKit
set_option linter.unusedVariables false
set_option linter.unusedSimpArgs false

theorem eqS_self (xs : List ByteArray) : eqS xs xs = true := by simp [eqS]

theorem walk_FnExactIndexOf (v : Value) (xs : List ByteArray) (s : ByteArray) (w : World) (h : Strs w v xs) (hs : s.size ≤ maxLen) :
    Calls Try.prog 10 #[v, .string s] w fun e w' => e = .returned (.bool true) ∧ Later w w' := by
  by_cases hb : 1048576 < s.size
  · go_enter Try.func10, Try.ntmps10
    go_wp2_with fail
    go_ret
    exact ⟨rfl, Later.rfl' _⟩
  by_cases hc : costS xs ≤ 1048576
  · have hsz : szR 1048576 (costS xs) = 1048576 - costS xs := szR_small (by omega)
    have hlen : xs.length ≤ 1048576 := by unfold costS at hc; omega
    have hsz0 : (0 : Int) ≤ 1048576 - (costS xs : Int) := by omega
    have C1 := szStringS v xs 1048576 w h (by omega) (by omega)
    rw [hsz] at C1
    have HE := Lib.hid (eqS_self xs)
    clear hsz hc
    go_enter Try.func10, Try.ntmps10
    go_wp2_with fail
    refine C1.mono ?_; rintro e w1 ⟨rfl, hb1⟩
    have h1 := h.later hb1.later
    go_wp2_with fail
    refine (toStringS _ xs _ h1 hlen).mono ?_; rintro e w2 ⟨⟨v2, rfl, o2⟩, hb2⟩
    have s2 := Strs.of_own h1.1.2 o2
    go_wp2_with fail
    refine (specIndexOf _ xs _ _ s2).mono ?_; rintro e w3 ⟨rfl, hb3⟩
    have h3 := (h1.later hb2).later hb3.later
    go_wp2_with fail
    refine (toStringS _ xs _ h3 hlen).mono ?_; rintro e w4 ⟨⟨v4, rfl, o4⟩, hb4⟩
    have s4 := Strs.of_own h3.1.2 o4
    go_wp2_with fail
    refine (implIndexOf _ xs _ _ s4).mono ?_; rintro e w5 ⟨rfl, hb5⟩
    have h5 := (h3.later hb4).later hb5.later
    have s5 := s4.later hb5.later
    go_wp2_with fail
    refine (toStringS _ xs _ h5 hlen).mono ?_; rintro e w6 ⟨⟨v6, rfl, o6⟩, hb6⟩
    have s6 := Strs.of_own h5.1.2 o6
    go_wp2_with fail
    refine (eqStringS _ _ xs xs _ (s5.later hb6) s6).mono ?_; rintro e w7 ⟨rfl, hb7⟩
    rw [HE.out]
    go_wp2_with fail
    go_ret
    exact ⟨rfl, hb1.later.trans (hb2.trans (hb3.later.trans (hb4.trans (hb5.later.trans (hb6.trans hb7.later)))))⟩
  · have hsz : szR 1048576 (costS xs) = -1 := szR_big (by omega)
    have C1 := szStringS v xs 1048576 w h (by omega) (by omega)
    rw [hsz] at C1
    clear hsz hc
    go_enter Try.func10, Try.ntmps10
    go_wp2_with fail
    refine C1.mono ?_; rintro e w1 ⟨rfl, hb1⟩
    go_wp2_with fail
    go_ret
    exact ⟨rfl, hb1.later⟩

theorem walk_FnExactAllDistinct (v : Value) (xs : List ByteArray) (w : World) (h : Strs w v xs) :
    Calls Try.prog 12 #[v] w fun e w' => e = .returned (.bool true) ∧ Later w w' := by
  by_cases hc : costS xs ≤ 1048576
  · have hsz : szR 1048576 (costS xs) = 1048576 - costS xs := szR_small (by omega)
    have hlen : xs.length ≤ 1048576 := by unfold costS at hc; omega
    have hsz0 : (0 : Int) ≤ 1048576 - (costS xs : Int) := by omega
    have C1 := szStringS v xs 1048576 w h (by omega) (by omega)
    rw [hsz] at C1
    have HE := Lib.hid (eqS_self xs)
    clear hsz hc
    go_enter Try.func12, Try.ntmps12
    go_wp2_with fail
    refine C1.mono ?_; rintro e w1 ⟨rfl, hb1⟩
    have h1 := h.later hb1.later
    go_wp2_with fail
    refine (toStringS _ xs _ h1 hlen).mono ?_; rintro e w2 ⟨⟨v2, rfl, o2⟩, hb2⟩
    have s2 := Strs.of_own h1.1.2 o2
    go_wp2_with fail
    refine (specAllDistinct _ xs _ s2).mono ?_; rintro e w3 ⟨rfl, hb3⟩
    have h3 := (h1.later hb2).later hb3.later
    go_wp2_with fail
    refine (toStringS _ xs _ h3 hlen).mono ?_; rintro e w4 ⟨⟨v4, rfl, o4⟩, hb4⟩
    have s4 := Strs.of_own h3.1.2 o4
    go_wp2_with fail
    refine (implAllDistinct _ xs _ s4).mono ?_; rintro e w5 ⟨rfl, hb5⟩
    have h5 := (h3.later hb4).later hb5.later
    have s5 := s4.later hb5.later
    go_wp2_with fail
    refine (toStringS _ xs _ h5 hlen).mono ?_; rintro e w6 ⟨⟨v6, rfl, o6⟩, hb6⟩
    have s6 := Strs.of_own h5.1.2 o6
    go_wp2_with fail
    refine (eqStringS _ _ xs xs _ (s5.later hb6) s6).mono ?_; rintro e w7 ⟨rfl, hb7⟩
    rw [HE.out]
    go_wp2_with fail
    go_ret
    exact ⟨rfl, hb1.later.trans (hb2.trans (hb3.later.trans (hb4.trans (hb5.later.trans (hb6.trans hb7.later)))))⟩
  · have hsz : szR 1048576 (costS xs) = -1 := szR_big (by omega)
    have C1 := szStringS v xs 1048576 w h (by omega) (by omega)
    rw [hsz] at C1
    clear hsz hc
    go_enter Try.func12, Try.ntmps12
    go_wp2_with fail
    refine C1.mono ?_; rintro e w1 ⟨rfl, hb1⟩
    go_wp2_with fail
    go_ret
    exact ⟨rfl, hb1.later⟩
end Go.Proofs.Ytbpalgildbodkaa
