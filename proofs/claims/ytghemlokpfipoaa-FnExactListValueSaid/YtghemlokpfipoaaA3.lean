/-
  Lists of strings: the walks of l1Has, IndexOf, AllDistinct, and of the laws' own szStringS, eqStringS, toStringS.
-/
import Derived.Test.YtghemlokpfipoaaFrame
import Derived.Test.YtghemlokpfipoaaPlain
import Derived.Deep.QuietTactic
import Derived.BigQuiet
import Derived.Outline
namespace Go.Proofs.Ytghemlokpfipoaa
open Go.ChangeShapes Go.WideShapes Go.ChangeAt Go.RowKit
set_option linter.unusedVariables false
set_option linter.unusedSimpArgs false

theorem specl1Has (v : Value) (xs : List ByteArray) (s : ByteArray) (w : World) (h : Strs w v xs) : Calls Try.prog 205 #[v, .string s] w fun e w' => e = .returned (.bool (hasB xs s)) ∧ Draws w w' := by
  obtain ⟨⟨hm, hf⟩, A, c, rfl, hlc, hcm, hc⟩ := h
  have HF := Lib.hid hf; clear hf
  go_enter Try.func205, Try.ntmps205
  go_wp2
  go_loop [5] (fun i => ∃ k : Nat, k ≤ xs.length ∧ i = .int .i64 k ∧ ∀ j, (hj : j < xs.length) → j < k → (xs[j].toList == s.toList) = false) (fun i => xs.length - (intOf i).toNat)
  case atStart => exact ⟨0, Nat.zero_le _, rfl, fun j _ h => absurd h (by omega)⟩
  case round =>
    obtain ⟨k, hk, rfl, hall⟩ := hrel
    have HA : Hid (∀ j, (hj : j < xs.length) → j < k → (xs[j].toList == s.toList) = false) := hall
    clear hall
    by_cases hlt : k < xs.length
    · obtain ⟨b, off, rfl, hb, hcell⟩ := hc.at_ (k := k) (by simpa using hlt)
      simp only [List.getElem_map] at hcell
      obtain ⟨x, hx⟩ : ∃ x, x = xs[k] := ⟨_, rfl⟩
      rw [← hx] at hcell
      have HX : Hid (x = xs[k]) := hx
      clear hx hc
      cases hq : (x.toList == s.toList) with
      | true =>
        have HV : Hid (hasB xs s = true) := has_hit hlt (by rw [← HX.out]; exact hq)
        go_wp2
        go_ret
        exact ⟨ret_bool HV.out.symm, Draws.rfl' _⟩
      | false =>
        have HQ : Hid ((x.toList == s.toList) = false) := hq
        go_wp2
        go_round
        case rel => exact ⟨k + 1, by omega, by go_num, fun j hj hjk => if e : j = k then by subst e; rw [← HX.out]; exact HQ.out else HA.out j hj (by omega)⟩
        case measure => simp [intOf]; omega
    · clear hc
      have HV : Hid (hasB xs s = false) := has_none fun j hj => HA.out j hj (by omega)
      go_wp2
      go_ret
      exact ⟨ret_bool HV.out.symm, Draws.rfl' _⟩
theorem implIndexOf (v : Value) (xs : List ByteArray) (s : ByteArray) (w : World) (h : Strs w v xs) : Calls Try.prog 202 #[v, .string s] w fun e w' => e = .returned (.int .i64 (indexB xs s)) ∧ Draws w w' := by
  obtain ⟨⟨hm, hf⟩, A, c, rfl, hlc, hcm, hc⟩ := h
  have HF := Lib.hid hf; clear hf
  go_enter Try.func202, Try.ntmps202
  go_wp2
  go_loop [9] (fun i => ∃ k : Nat, k ≤ xs.length ∧ i = .int .i64 k ∧ ∀ j, (hj : j < xs.length) → j < k → (xs[j].toList == s.toList) = false) (fun i => xs.length - (intOf i).toNat)
  case atStart => exact ⟨0, Nat.zero_le _, rfl, fun j _ h => absurd h (by omega)⟩
  case round =>
    obtain ⟨k, hk, rfl, hall⟩ := hrel
    have HA : Hid (∀ j, (hj : j < xs.length) → j < k → (xs[j].toList == s.toList) = false) := hall
    clear hall
    by_cases hlt : k < xs.length
    · obtain ⟨b, off, rfl, hb, hcell⟩ := hc.at_ (k := k) (by simpa using hlt)
      simp only [List.getElem_map] at hcell
      obtain ⟨x, hx⟩ : ∃ x, x = xs[k] := ⟨_, rfl⟩
      rw [← hx] at hcell
      have HX : Hid (x = xs[k]) := hx
      clear hx hc
      cases hq : (x.toList == s.toList) with
      | true =>
        have HV : Hid (indexB xs s = k) := index_hit hlt (by rw [← HX.out]; exact hq) HA.out
        go_wp2
        go_ret
        exact ⟨ret_int HV.out.symm, Draws.rfl' _⟩
      | false =>
        have HQ : Hid ((x.toList == s.toList) = false) := hq
        go_wp2
        go_round
        case rel => exact ⟨k + 1, by omega, by go_num, fun j hj hjk => if e : j = k then by subst e; rw [← HX.out]; exact HQ.out else HA.out j hj (by omega)⟩
        case measure => simp [intOf]; omega
    · clear hc
      have HV : Hid (indexB xs s = -1) := index_none fun j hj => HA.out j hj (by omega)
      go_wp2
      go_ret
      exact ⟨ret_int HV.out.symm, Draws.rfl' _⟩
end Go.Proofs.Ytghemlokpfipoaa
