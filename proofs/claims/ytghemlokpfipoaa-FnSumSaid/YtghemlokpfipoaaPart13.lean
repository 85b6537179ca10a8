/-
  FnExactIsValidText, FnExactArgumentCount, FnExactIsReserved: the walks of the laws and of what they call.
-/
import Derived.Test.YtghemlokpfipoaaPart1
import Derived.Test.YtghemlokpfipoaaPart3
namespace Go.Proofs.Ytghemlokpfipoaa
open Go.ChangeShapes Go.WideShapes Go.ChangeAt Go.RowKit
open Go.ChangeMaps (open_string shut_string)
set_option linter.unusedVariables false
set_option linter.unusedSimpArgs false

def okByte (c : UInt8) : Bool := decide (32 ≤ c.toNat) && decide (c.toNat ≤ 126) && !decide (c.toNat = 34)
def validText (s : ByteArray) : Bool := s.data.toList.all okByte && decide (s.size ≤ 20)

theorem all_get {p : UInt8 → Bool} {s : ByteArray} (h : ∀ j, (hj : j < s.size) → p (s[j]'hj) = true) : s.data.toList.all p = true := by
  rw [List.all_eq_true]
  intro x hx
  obtain ⟨j, hj, rfl⟩ := List.getElem_of_mem hx
  exact h j (by simpa using hj)
theorem all_not {p : UInt8 → Bool} {s : ByteArray} {j : Nat} (hj : j < s.size) (h : p (s[j]'hj) = false) : s.data.toList.all p = false := by
  rw [List.all_eq_false]
  exact ⟨s[j], by simp only [ByteArray.getElem_eq_getElem_data]; exact Array.getElem_mem_toList _, by simp [h]⟩

theorem specIsValidText (s : ByteArray) (w : World) (hs : s.size ≤ maxLen) : Calls Try.prog 96 #[.string s] w fun e w' => e = .returned (.bool (validText s)) ∧ Later w w' := by
  unfold maxLen at hs
  go_enter Try.func96, Try.ntmps96
  go_wp2
  go_loop [3] (fun i => ∃ k : Nat, k ≤ s.size ∧ i = .int .i64 k ∧ ∀ j, (hj : j < s.size) → j < k → okByte (s[j]'hj) = true) (fun i => s.size - (intOf i).toNat)
  case atStart => exact ⟨0, Nat.zero_le _, rfl, fun j _ h => absurd h (by omega)⟩
  case round =>
    obtain ⟨k, hk, rfl, hall⟩ := hrel
    have HA : Hid (∀ j, (hj : j < s.size) → j < k → okByte (s[j]'hj) = true) := hall
    clear hall
    by_cases hlt : k < s.size
    · cases hb : okByte (s[k]'hlt) with
      | true =>
        have hb' := hb
        have HB : Hid (okByte (s[k]'hlt) = true) := hb
        simp only [okByte, Bool.and_eq_true, decide_eq_true_eq, Bool.not_eq_true', decide_eq_false_iff_not] at hb'
        have h1 : (32 : Int) ≤ ((s[k]'hlt).toNat : Int) := by omega
        have h2 : ((s[k]'hlt).toNat : Int) ≤ 126 := by omega
        have h3 : (((s[k]'hlt).toNat : Int) == 34) = false := by simp; omega
        clear hb hb'
        go_wp2
        go_round
        case rel => exact ⟨k + 1, by omega, by go_num, fun j hj hjk => if e : j = k then by subst e; exact HB.out else HA.out j hj (by omega)⟩
        case measure => simp [intOf]; omega
      | false =>
        have hv : validText s = false := by simp [validText, all_not hlt hb]
        have HV : Hid (validText s = false) := hv
        simp only [okByte, Bool.and_eq_false_iff, decide_eq_false_iff_not, Bool.not_eq_false', decide_eq_true_eq] at hb
        clear hv
        have h4 : (s[k]'hlt).toNat < 32 ∨ (32 ≤ (s[k]'hlt).toNat ∧ 126 < (s[k]'hlt).toNat) ∨ (s[k]'hlt).toNat = 34 := by omega
        clear hb
        rcases h4 with h4 | ⟨h4, h5⟩ | h4
        · have h1 : ((s[k]'hlt).toNat : Int) < 32 := by omega
          clear h4
          go_wp2
          go_ret
          exact ⟨ret_bool HV.out.symm, Later.rfl' _⟩
        · have h1 : (32 : Int) ≤ ((s[k]'hlt).toNat : Int) := by omega
          have h2 : (126 : Int) < ((s[k]'hlt).toNat : Int) := by omega
          clear h4 h5
          go_wp2
          go_ret
          exact ⟨ret_bool HV.out.symm, Later.rfl' _⟩
        · have h1 : (32 : Int) ≤ ((s[k]'hlt).toNat : Int) := by omega
          have h2 : ((s[k]'hlt).toNat : Int) ≤ 126 := by omega
          have h3 : (((s[k]'hlt).toNat : Int) == 34) = true := by simp; omega
          clear h4
          go_wp2
          go_ret
          exact ⟨ret_bool HV.out.symm, Later.rfl' _⟩
    · go_wp2
      go_ret
      have hv : validText s = decide (s.size ≤ 20) := by
        unfold validText
        rw [all_get (fun j hj => HA.out j hj (by omega))]
        rfl
      exact ⟨ret_bool (by rw [hv]; exact decide_eq_decide.2 (by omega)), Later.rfl' _⟩

theorem implIsValidText (s : ByteArray) (w : World) (hs : s.size ≤ maxLen) : Calls Try.prog 67 #[.string s] w fun e w' => e = .returned (.bool (validText s)) ∧ Later w w' := by
  unfold maxLen at hs
  go_enter Try.func67, Try.ntmps67
  go_wp2
  go_loop [3] (fun i => ∃ k : Nat, k ≤ s.size ∧ i = .int .i64 k ∧ ∀ j, (hj : j < s.size) → j < k → okByte (s[j]'hj) = true) (fun i => s.size - (intOf i).toNat)
  case atStart => exact ⟨0, Nat.zero_le _, rfl, fun j _ h => absurd h (by omega)⟩
  case round =>
    obtain ⟨k, hk, rfl, hall⟩ := hrel
    have HA : Hid (∀ j, (hj : j < s.size) → j < k → okByte (s[j]'hj) = true) := hall
    clear hall
    by_cases hlt : k < s.size
    · cases hb : okByte (s[k]'hlt) with
      | true =>
        have hb' := hb
        have HB : Hid (okByte (s[k]'hlt) = true) := hb
        simp only [okByte, Bool.and_eq_true, decide_eq_true_eq, Bool.not_eq_true', decide_eq_false_iff_not] at hb'
        have h1 : (32 : Int) ≤ ((s[k]'hlt).toNat : Int) := by omega
        have h2 : ((s[k]'hlt).toNat : Int) ≤ 126 := by omega
        have h3 : (((s[k]'hlt).toNat : Int) == 34) = false := by simp; omega
        clear hb hb'
        go_wp2
        go_round
        case rel => exact ⟨k + 1, by omega, by go_num, fun j hj hjk => if e : j = k then by subst e; exact HB.out else HA.out j hj (by omega)⟩
        case measure => simp [intOf]; omega
      | false =>
        have hv : validText s = false := by simp [validText, all_not hlt hb]
        have HV : Hid (validText s = false) := hv
        simp only [okByte, Bool.and_eq_false_iff, decide_eq_false_iff_not, Bool.not_eq_false', decide_eq_true_eq] at hb
        clear hv
        have h4 : (s[k]'hlt).toNat < 32 ∨ (32 ≤ (s[k]'hlt).toNat ∧ 126 < (s[k]'hlt).toNat) ∨ (s[k]'hlt).toNat = 34 := by omega
        clear hb
        rcases h4 with h4 | ⟨h4, h5⟩ | h4
        · have h1 : ((s[k]'hlt).toNat : Int) < 32 := by omega
          clear h4
          go_wp2
          go_ret
          exact ⟨ret_bool HV.out.symm, Later.rfl' _⟩
        · have h1 : (32 : Int) ≤ ((s[k]'hlt).toNat : Int) := by omega
          have h2 : (126 : Int) < ((s[k]'hlt).toNat : Int) := by omega
          clear h4 h5
          go_wp2
          go_ret
          exact ⟨ret_bool HV.out.symm, Later.rfl' _⟩
        · have h1 : (32 : Int) ≤ ((s[k]'hlt).toNat : Int) := by omega
          have h2 : ((s[k]'hlt).toNat : Int) ≤ 126 := by omega
          have h3 : (((s[k]'hlt).toNat : Int) == 34) = true := by simp; omega
          clear h4
          go_wp2
          go_ret
          exact ⟨ret_bool HV.out.symm, Later.rfl' _⟩
    · go_wp2
      go_ret
      have hv : validText s = decide (s.size ≤ 20) := by
        unfold validText
        rw [all_get (fun j hj => HA.out j hj (by omega))]
        rfl
      exact ⟨ret_bool (by rw [hv]; exact decide_eq_decide.2 (by omega)), Later.rfl' _⟩


theorem specArgumentCount (s : ByteArray) (w : World) (hs : s.size ≤ maxLen) : Calls Try.prog 197 #[.string s] w fun e w' => e = .returned (.int .i64 (argCount s)) ∧ Later w w' := by
  rcases arg_ways s with ⟨h0, hr⟩ | ⟨h0, h1, hr⟩ | ⟨h0, h1, h2, hr⟩ | ⟨h0, h1, h2, h3, hr⟩ | ⟨h0, h1, h2, h3, h4, hr⟩ | ⟨h0, h1, h2, h3, h4, h5, hr⟩ | ⟨h0, h1, h2, h3, h4, h5, h6, hr⟩ | ⟨h0, h1, h2, h3, h4, h5, h6, h7, hr⟩ | ⟨h0, h1, h2, h3, h4, h5, h6, h7, h8, hr⟩ | ⟨h0, h1, h2, h3, h4, h5, h6, h7, h8, h9, hr⟩ | ⟨h0, h1, h2, h3, h4, h5, h6, h7, h8, h9, h10, hr⟩ | ⟨h0, h1, h2, h3, h4, h5, h6, h7, h8, h9, h10, h11, hr⟩ | ⟨h0, h1, h2, h3, h4, h5, h6, h7, h8, h9, h10, h11, h12, hr⟩ | ⟨h0, h1, h2, h3, h4, h5, h6, h7, h8, h9, h10, h11, h12, h13, hr⟩ | ⟨h0, h1, h2, h3, h4, h5, h6, h7, h8, h9, h10, h11, h12, h13, h14, hr⟩ | ⟨h0, h1, h2, h3, h4, h5, h6, h7, h8, h9, h10, h11, h12, h13, h14, h15, hr⟩ | ⟨h0, h1, h2, h3, h4, h5, h6, h7, h8, h9, h10, h11, h12, h13, h14, h15, h16, hr⟩ | ⟨h0, h1, h2, h3, h4, h5, h6, h7, h8, h9, h10, h11, h12, h13, h14, h15, h16, hr⟩
  all_goals
    go_enter Try.func197, Try.ntmps197
    go_wp2
    go_ret
    exact ⟨ret_int hr.out.symm, Later.rfl' _⟩

theorem implArgumentCount (s : ByteArray) (w : World) (hs : s.size ≤ maxLen) : Calls Try.prog 61 #[.string s] w fun e w' => e = .returned (.int .i64 (argCount s)) ∧ Later w w' := by
  rcases arg_ways s with ⟨h0, hr⟩ | ⟨h0, h1, hr⟩ | ⟨h0, h1, h2, hr⟩ | ⟨h0, h1, h2, h3, hr⟩ | ⟨h0, h1, h2, h3, h4, hr⟩ | ⟨h0, h1, h2, h3, h4, h5, hr⟩ | ⟨h0, h1, h2, h3, h4, h5, h6, hr⟩ | ⟨h0, h1, h2, h3, h4, h5, h6, h7, hr⟩ | ⟨h0, h1, h2, h3, h4, h5, h6, h7, h8, hr⟩ | ⟨h0, h1, h2, h3, h4, h5, h6, h7, h8, h9, hr⟩ | ⟨h0, h1, h2, h3, h4, h5, h6, h7, h8, h9, h10, hr⟩ | ⟨h0, h1, h2, h3, h4, h5, h6, h7, h8, h9, h10, h11, hr⟩ | ⟨h0, h1, h2, h3, h4, h5, h6, h7, h8, h9, h10, h11, h12, hr⟩ | ⟨h0, h1, h2, h3, h4, h5, h6, h7, h8, h9, h10, h11, h12, h13, hr⟩ | ⟨h0, h1, h2, h3, h4, h5, h6, h7, h8, h9, h10, h11, h12, h13, h14, hr⟩ | ⟨h0, h1, h2, h3, h4, h5, h6, h7, h8, h9, h10, h11, h12, h13, h14, h15, hr⟩ | ⟨h0, h1, h2, h3, h4, h5, h6, h7, h8, h9, h10, h11, h12, h13, h14, h15, h16, hr⟩ | ⟨h0, h1, h2, h3, h4, h5, h6, h7, h8, h9, h10, h11, h12, h13, h14, h15, h16, hr⟩
  all_goals
    go_enter Try.func61, Try.ntmps61
    go_wp2
    go_ret
    exact ⟨ret_int hr.out.symm, Later.rfl' _⟩

theorem implIsReserved (s : ByteArray) (w : World) (hs : s.size ≤ maxLen) : Calls Try.prog 201 #[.string s] w fun e w' => e = .returned (.bool (isReserved s)) ∧ Later w w' := by
  rcases kw_ways s with ⟨h0, hr⟩ | ⟨h0, h1, hr⟩ | ⟨h0, h1, h2, hr⟩ | ⟨h0, h1, h2, h3, hr⟩ | ⟨h0, h1, h2, h3, h4, hr⟩ | ⟨h0, h1, h2, h3, h4, h5, hr⟩ | ⟨h0, h1, h2, h3, h4, h5, h6, hr⟩ | ⟨h0, h1, h2, h3, h4, h5, h6, hr⟩
  case inr.inr.inr.inr.inr.inr.inr =>
    go_enter Try.func201, Try.ntmps201
    go_wp2_with (first | (go_at_call 61; refine (implArgumentCount _ _ hs).mono ?_; rintro e w1 ⟨rfl, hb1⟩))
    go_ret
    exact ⟨ret_bool hr.out.symm, hb1⟩
  all_goals
    go_enter Try.func201, Try.ntmps201
    go_wp2
    go_ret
    exact ⟨ret_bool hr.out.symm, Later.rfl' _⟩

end Go.Proofs.Ytghemlokpfipoaa
