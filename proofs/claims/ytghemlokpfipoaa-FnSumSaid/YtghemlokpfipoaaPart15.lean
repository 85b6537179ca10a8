/-
  IsValidName: the walks. AllDistinct, IsReserved, IsValidName: the walks of what the laws call; the laws FnExactIndexOf, FnExactAllDistinct, FnExactIsReserved, FnExactIsValidName.
-/
import Derived.Test.YtghemlokpfipoaaPart14
import Derived.Test.YtghemlokpfipoaaPart13
import Derived.Test.YtghemlokpfipoaaPart6
namespace Go.Proofs.Ytghemlokpfipoaa
open Go.ChangeShapes Go.WideShapes Go.ChangeAt Go.RowKit
set_option linter.unusedVariables false
set_option linter.unusedSimpArgs false

theorem word_true {s : ByteArray} (h : wordS s = true) (h8 : s.size ≤ 8) : wordI s = true := by
  simp only [wordS, Bool.and_eq_true, decide_eq_true_eq] at h
  simp only [wordI, h.1, Bool.true_and, Bool.and_eq_true, decide_eq_true_eq]
  omega
theorem word_long {s : ByteArray} (h8 : ¬ s.size ≤ 8) : wordI s = false := by
  simp [wordI, h8]
theorem word_false {s : ByteArray} (h : wordS s = false) : wordI s = false := by
  simp only [wordS, Bool.and_eq_false_iff, decide_eq_false_iff_not] at h
  simp only [wordI, Bool.and_eq_false_iff, decide_eq_false_iff_not]
  rcases h with h | h
  · exact .inl h
  · exact .inr (.inl (by omega))

theorem specIsValidName (s : ByteArray) (w : World) (hs : s.size ≤ maxLen) : Calls Try.prog 171 #[.string s] w fun e w' => e = .returned (.bool (validName s)) ∧ Later w w' := by
  rcases Bool.eq_false_or_eq_true (wordS s) with hq | hq
  · by_cases h8 : s.size ≤ 8
    · have h8' : (s.size : Int) ≤ 8 := by omega
      have HV : Hid (validName s = !isReserved s) := by unfold Hid; simp [validName, word_true hq h8]
      clear h8
      have HC := specl2Shape s w hs
      rw [hq] at HC
      clear hq
      go_enter Try.func171, Try.ntmps171
      go_wp2_with (first | (go_at_call 203; refine HC.mono ?_; rintro e w1 ⟨rfl, hb1⟩) | (go_at_call 204; refine (specIsReserved _ _ hs).mono ?_; rintro e w2 ⟨rfl, hb2⟩))
      go_ret
      exact ⟨ret_bool HV.out.symm, hb1.trans hb2⟩
    · have h8' : decide ((s.size : Int) ≤ 8) = false := by simp; omega
      have h8'' : (8 : Int) < (s.size : Int) := by omega
      have HV : Hid (validName s = false) := by unfold Hid; simp [validName, word_long h8]
      clear h8
      have HC := specl2Shape s w hs
      rw [hq] at HC
      clear hq
      go_enter Try.func171, Try.ntmps171
      go_wp2_with (first | (go_at_call 203; refine HC.mono ?_; rintro e w1 ⟨rfl, hb1⟩))
      go_ret
      exact ⟨ret_bool HV.out.symm, hb1⟩
  · have HV : Hid (validName s = false) := by unfold Hid; simp [validName, word_false hq]
    have HC := specl2Shape s w hs
    rw [hq] at HC
    clear hq
    go_enter Try.func171, Try.ntmps171
    go_wp2_with (first | (go_at_call 203; refine HC.mono ?_; rintro e w1 ⟨rfl, hb1⟩))
    go_ret
    exact ⟨ret_bool HV.out.symm, hb1⟩

theorem implIsValidName (s : ByteArray) (w : World) (hs : s.size ≤ maxLen) : Calls Try.prog 168 #[.string s] w fun e w' => e = .returned (.bool (validName s)) ∧ Later w w' := by
  rcases Bool.eq_false_or_eq_true (wordI s) with hq | hq
  · have HV : Hid (validName s = !isReserved s) := by unfold Hid; simp [validName, hq]
    have HC := implisWord s w hs
    rw [hq] at HC
    clear hq
    go_enter Try.func168, Try.ntmps168
    go_wp2_with (first | (go_at_call 200; refine HC.mono ?_; rintro e w1 ⟨rfl, hb1⟩) | (go_at_call 201; refine (implIsReserved _ _ hs).mono ?_; rintro e w2 ⟨rfl, hb2⟩))
    go_ret
    exact ⟨ret_bool HV.out.symm, hb1.trans hb2⟩
  · have HV : Hid (validName s = false) := by unfold Hid; simp [validName, hq]
    have HC := implisWord s w hs
    rw [hq] at HC
    clear hq
    go_enter Try.func168, Try.ntmps168
    go_wp2_with (first | (go_at_call 200; refine HC.mono ?_; rintro e w1 ⟨rfl, hb1⟩))
    go_ret
    exact ⟨ret_bool HV.out.symm, hb1⟩
end Go.Proofs.Ytghemlokpfipoaa
namespace Go.Proofs.Ytghemlokpfipoaa
open Go.ChangeShapes Go.WideShapes Go.ChangeAt Go.RowKit
open Go.ChangeMaps (open_string shut_string)
set_option linter.unusedVariables false
set_option linter.unusedSimpArgs false

theorem distinct_hit {xs : List ByteArray} {k : Nat} (hk : k < xs.length) (h : hasB (xs.take k) xs[k] = true) : distinctB xs = false := by
  simp only [distinctB, decide_eq_false_iff_not]
  intro hall
  rw [hall k hk] at h
  cases h
theorem distinct_all {xs : List ByteArray} (h : ∀ i, (hi : i < xs.length) → hasB (xs.take i) xs[i] = false) : distinctB xs = true := by
  simp only [distinctB, decide_eq_true_eq]
  exact h

theorem specAllDistinct (v : Value) (xs : List ByteArray) (w : World) (h : Strs w v xs) :
    Calls Try.prog 172 #[v] w fun e w' => e = .returned (.bool (distinctB xs)) ∧ Draws w w' := by
  have h0 := h
  obtain ⟨⟨hm, hf⟩, A, c, rfl, hlc, hcm, hc⟩ := h
  clear hf
  go_enter Try.func172, Try.ntmps172
  go_wp2
  go_loopw [3] (fun i wr => ∃ k : Nat, k ≤ xs.length ∧ i = .int .i64 k ∧ (∀ i, (hi : i < xs.length) → i < k → hasB (xs.take i) xs[i] = false) ∧ Draws w wr) (fun i _ => xs.length - (intOf i).toNat)
  case atStart => exact ⟨0, Nat.zero_le _, rfl, fun j _ h => absurd h (by omega), Draws.rfl' _⟩
  case round =>
    obtain ⟨k, hk, rfl, hall, hw⟩ := hrel
    have HA : Hid (∀ i, (hi : i < xs.length) → i < k → hasB (xs.take i) xs[i] = false) := hall
    clear hall
    have hs := h0.later hw.later
    clear h0
    by_cases hlt : k < xs.length
    · have hcut := hs.take (k := k) (by omega)
      obtain ⟨b, off, rfl, hb, hcell⟩ := (hc.later hw.later).at_ (k := k) (by simpa using hlt)
      simp only [List.getElem_map] at hcell
      have hki : (k : Int) < (xs.length : Int) := by omega
      obtain ⟨x, hx⟩ : ∃ x, x = xs[k] := ⟨_, rfl⟩
      rw [← hx] at hcell
      have HX : Hid (x = xs[k]) := hx
      obtain ⟨ys, hy⟩ : ∃ ys, ys = xs.take k := ⟨_, rfl⟩
      rw [← hy] at hcut
      have HY : Hid (ys = xs.take k) := hy
      clear hx hy hc hs
      cases hq : hasB ys x with
      | true =>
        have HV : Hid (distinctB xs = false) := distinct_hit hlt (by rw [← HX.out, ← HY.out]; exact hq)
        have HC := fun n => quiet_call (n := n) (specl1Has _ ys x (wr.drewN n) (hcut.later (Later.drewN _ _)))
        rw [hq] at HC
        clear hq
        go_wp2_with fail
        go_quiet ((go_at_call 205; exact HC _))
        clear HC
        go_wp2
        go_ret
        exact ⟨ret_bool HV.out.symm, hw.trans (Draws.drewN _ _)⟩
      | false =>
        have HQ : Hid (hasB ys x = false) := hq
        have HC := fun n => quiet_call (n := n) (specl1Has _ ys x (wr.drewN n) (hcut.later (Later.drewN _ _)))
        rw [hq] at HC
        clear hq
        go_wp2_with fail
        go_quiet ((go_at_call 205; exact HC _))
        clear HC
        go_wp2
        go_roundw
        case rel => exact ⟨k + 1, by omega, by go_num, fun j hj hjk => if e : j = k then by subst e; rw [← HX.out, ← HY.out]; exact HQ.out else HA.out j hj (by omega), hw.trans (Draws.drewN _ _)⟩
        case measure => simp [intOf]; omega
    · clear hc hs
      have HV : Hid (distinctB xs = true) := distinct_all fun j hj => HA.out j hj (by omega)
      go_wp2
      go_ret
      exact ⟨ret_bool HV.out.symm, hw⟩

theorem implAllDistinct (v : Value) (xs : List ByteArray) (w : World) (h : Strs w v xs) :
    Calls Try.prog 169 #[v] w fun e w' => e = .returned (.bool (distinctB xs)) ∧ Draws w w' := by
  have h0 := h
  obtain ⟨⟨hm, hf⟩, A, c, rfl, hlc, hcm, hc⟩ := h
  clear hf
  go_enter Try.func169, Try.ntmps169
  go_wp2
  go_loopw [7] (fun i wr => ∃ k : Nat, k ≤ xs.length ∧ i = .int .i64 k ∧ (∀ i, (hi : i < xs.length) → i < k → hasB (xs.take i) xs[i] = false) ∧ Draws w wr) (fun i _ => xs.length - (intOf i).toNat)
  case atStart => exact ⟨0, Nat.zero_le _, rfl, fun j _ h => absurd h (by omega), Draws.rfl' _⟩
  case round =>
    obtain ⟨k, hk, rfl, hall, hw⟩ := hrel
    have HA : Hid (∀ i, (hi : i < xs.length) → i < k → hasB (xs.take i) xs[i] = false) := hall
    clear hall
    have hs := h0.later hw.later
    clear h0
    by_cases hlt : k < xs.length
    · obtain ⟨b, off, rfl, hb, hcell⟩ := (hc.later hw.later).at_ (k := k) (by simpa using hlt)
      simp only [List.getElem_map] at hcell
      have hki : (k : Int) < (xs.length : Int) := by omega
      obtain ⟨x, hx⟩ : ∃ x, x = xs[k] := ⟨_, rfl⟩
      rw [← hx] at hcell
      have HX : Hid (x = xs[k]) := hx
      have hself := index_self hlt
      rw [← hx] at hself
      have HS : Hid (indexB xs x = k ↔ hasB (xs.take k) x = false) := hself
      clear hx hc hself
      cases hq : hasB (xs.take k) x with
      | true =>
        have HV : Hid (distinctB xs = false) := distinct_hit hlt (by rw [← HX.out]; exact hq)
        have hne : (indexB xs x != (k : Int)) = true := by
          have := HS.out
          rw [hq] at this
          simp at this
          simpa using this
        clear hq
        go_wp2_with ((go_at_call 202; refine (implIndexOf _ xs _ _ hs).mono ?_; rintro e w1 ⟨rfl, hb1⟩))
        go_ret
        exact ⟨ret_bool HV.out.symm, hw.trans hb1⟩
      | false =>
        have HQ : Hid (hasB (xs.take k) x = false) := hq
        have hne : (indexB xs x != (k : Int)) = false := by
          have := HS.out.2 hq
          simp [this]
        clear hq
        go_wp2_with ((go_at_call 202; refine (implIndexOf _ xs _ _ hs).mono ?_; rintro e w1 ⟨rfl, hb1⟩))
        go_roundw
        case rel => exact ⟨k + 1, by omega, by go_num, fun j hj hjk => if e : j = k then by subst e; rw [← HX.out]; exact HQ.out else HA.out j hj (by omega), hw.trans hb1⟩
        case measure => simp [intOf]; omega
    · clear hc hs
      have HV : Hid (distinctB xs = true) := distinct_all fun j hj => HA.out j hj (by omega)
      go_wp2
      go_ret
      exact ⟨ret_bool HV.out.symm, hw⟩
end Go.Proofs.Ytghemlokpfipoaa
