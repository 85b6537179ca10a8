/-
  FnExactIsValidText, FnExactArgumentCount, FnExactIsReserved: the walks of the laws and of what they call. Lists of strings: the walks of l1Has, IndexOf, AllDistinct, and of the laws' own szStringS, eqStringS, toStringS. The laws' own helpers on lists of strings: szStringS, eqStringS, toStringS; AllDistinct.
-/
import Derived.Test.YtghemlokpfipoaaDoorYFrame
import Derived.Test.YtghemlokpfipoaaDoorYWords
import Derived.Test.YtghemlokpfipoaaDoorYPlain
import Derived.Deep.QuietTactic
import Derived.BigQuiet
import Derived.Outline
namespace Go.Proofs.YtghemlokpfipoaaDoor
open Go.ChangeShapes Go.WideShapes Go.ChangeAt Go.RowKit
open Go.ChangeMaps (open_string shut_string)
set_option linter.unusedVariables false
set_option linter.unusedSimpArgs false

def okByte (c : UInt8) : Bool := decide (32 ≤ c.toNat) && decide (c.toNat ≤ 126) && !decide (c.toNat = 34)
def validText (s : ByteArray) : Bool := s.data.toList.all okByte && decide (s.size ≤ 20)

theorem all_get {p : UInt8 → Bool} {s : ByteArray} (h : ∀ j, (hj : j < s.size) → p (s[j]'hj) = true) : s.data.toList.all p = true := by
  rw [List.all_eq_true]
  intro x hx
  obtain ⟨j, hj, rfl⟩ := List.getElem_of_mem hx
  exact h j (by simpa using hj)
theorem all_not {p : UInt8 → Bool} {s : ByteArray} {j : Nat} (hj : j < s.size) (h : p (s[j]'hj) = false) : s.data.toList.all p = false := by
  rw [List.all_eq_false]
  exact ⟨s[j], by simp only [ByteArray.getElem_eq_getElem_data]; exact Array.getElem_mem_toList _, by simp [h]⟩

theorem specIsValidText (s : ByteArray) (w : World) (hs : s.size ≤ maxLen) : Calls Tryd.prog 27 #[.string s] w fun e w' => e = .returned (.bool (validText s)) ∧ Later w w' := by
  unfold maxLen at hs
  go_enter Tryd.func27, Tryd.ntmps27
  go_wp2
  go_loop [3] (fun i => ∃ k : Nat, k ≤ s.size ∧ i = .int .i64 k ∧ ∀ j, (hj : j < s.size) → j < k → okByte (s[j]'hj) = true) (fun i => s.size - (intOf i).toNat)
  case atStart => exact ⟨0, Nat.zero_le _, rfl, fun j _ h => absurd h (by omega)⟩
  case round =>
    obtain ⟨k, hk, rfl, hall⟩ := hrel
    have HA : Hid (∀ j, (hj : j < s.size) → j < k → okByte (s[j]'hj) = true) := hall
    clear hall
    by_cases hlt : k < s.size
    · cases hb : okByte (s[k]'hlt) with
      | true =>
        have hb' := hb
        have HB : Hid (okByte (s[k]'hlt) = true) := hb
        simp only [okByte, Bool.and_eq_true, decide_eq_true_eq, Bool.not_eq_true', decide_eq_false_iff_not] at hb'
        have h1 : (32 : Int) ≤ ((s[k]'hlt).toNat : Int) := by omega
        have h2 : ((s[k]'hlt).toNat : Int) ≤ 126 := by omega
        have h3 : (((s[k]'hlt).toNat : Int) == 34) = false := by simp; omega
        clear hb hb'
        go_wp2
        go_round
        case rel => exact ⟨k + 1, by omega, by go_num, fun j hj hjk => if e : j = k then by subst e; exact HB.out else HA.out j hj (by omega)⟩
        case measure => simp [intOf]; omega
      | false =>
        have hv : validText s = false := by simp [validText, all_not hlt hb]
        have HV : Hid (validText s = false) := hv
        simp only [okByte, Bool.and_eq_false_iff, decide_eq_false_iff_not, Bool.not_eq_false', decide_eq_true_eq] at hb
        clear hv
        have h4 : (s[k]'hlt).toNat < 32 ∨ (32 ≤ (s[k]'hlt).toNat ∧ 126 < (s[k]'hlt).toNat) ∨ (s[k]'hlt).toNat = 34 := by omega
        clear hb
        rcases h4 with h4 | ⟨h4, h5⟩ | h4
        · have h1 : ((s[k]'hlt).toNat : Int) < 32 := by omega
          clear h4
          go_wp2
          go_ret
          exact ⟨ret_bool HV.out.symm, Later.rfl' _⟩
        · have h1 : (32 : Int) ≤ ((s[k]'hlt).toNat : Int) := by omega
          have h2 : (126 : Int) < ((s[k]'hlt).toNat : Int) := by omega
          clear h4 h5
          go_wp2
          go_ret
          exact ⟨ret_bool HV.out.symm, Later.rfl' _⟩
        · have h1 : (32 : Int) ≤ ((s[k]'hlt).toNat : Int) := by omega
          have h2 : ((s[k]'hlt).toNat : Int) ≤ 126 := by omega
          have h3 : (((s[k]'hlt).toNat : Int) == 34) = true := by simp; omega
          clear h4
          go_wp2
          go_ret
          exact ⟨ret_bool HV.out.symm, Later.rfl' _⟩
    · go_wp2
      go_ret
      have hv : validText s = decide (s.size ≤ 20) := by
        unfold validText
        rw [all_get (fun j hj => HA.out j hj (by omega))]
        rfl
      exact ⟨ret_bool (by rw [hv]; exact decide_eq_decide.2 (by omega)), Later.rfl' _⟩

theorem implIsValidText (s : ByteArray) (w : World) (hs : s.size ≤ maxLen) : Calls Tryd.prog 31 #[.string s] w fun e w' => e = .returned (.bool (validText s)) ∧ Later w w' := by
  unfold maxLen at hs
  go_enter Tryd.func31, Tryd.ntmps31
  go_wp2
  go_loop [3] (fun i => ∃ k : Nat, k ≤ s.size ∧ i = .int .i64 k ∧ ∀ j, (hj : j < s.size) → j < k → okByte (s[j]'hj) = true) (fun i => s.size - (intOf i).toNat)
  case atStart => exact ⟨0, Nat.zero_le _, rfl, fun j _ h => absurd h (by omega)⟩
  case round =>
    obtain ⟨k, hk, rfl, hall⟩ := hrel
    have HA : Hid (∀ j, (hj : j < s.size) → j < k → okByte (s[j]'hj) = true) := hall
    clear hall
    by_cases hlt : k < s.size
    · cases hb : okByte (s[k]'hlt) with
      | true =>
        have hb' := hb
        have HB : Hid (okByte (s[k]'hlt) = true) := hb
        simp only [okByte, Bool.and_eq_true, decide_eq_true_eq, Bool.not_eq_true', decide_eq_false_iff_not] at hb'
        have h1 : (32 : Int) ≤ ((s[k]'hlt).toNat : Int) := by omega
        have h2 : ((s[k]'hlt).toNat : Int) ≤ 126 := by omega
        have h3 : (((s[k]'hlt).toNat : Int) == 34) = false := by simp; omega
        clear hb hb'
        go_wp2
        go_round
        case rel => exact ⟨k + 1, by omega, by go_num, fun j hj hjk => if e : j = k then by subst e; exact HB.out else HA.out j hj (by omega)⟩
        case measure => simp [intOf]; omega
      | false =>
        have hv : validText s = false := by simp [validText, all_not hlt hb]
        have HV : Hid (validText s = false) := hv
        simp only [okByte, Bool.and_eq_false_iff, decide_eq_false_iff_not, Bool.not_eq_false', decide_eq_true_eq] at hb
        clear hv
        have h4 : (s[k]'hlt).toNat < 32 ∨ (32 ≤ (s[k]'hlt).toNat ∧ 126 < (s[k]'hlt).toNat) ∨ (s[k]'hlt).toNat = 34 := by omega
        clear hb
        rcases h4 with h4 | ⟨h4, h5⟩ | h4
        · have h1 : ((s[k]'hlt).toNat : Int) < 32 := by omega
          clear h4
          go_wp2
          go_ret
          exact ⟨ret_bool HV.out.symm, Later.rfl' _⟩
        · have h1 : (32 : Int) ≤ ((s[k]'hlt).toNat : Int) := by omega
          have h2 : (126 : Int) < ((s[k]'hlt).toNat : Int) := by omega
          clear h4 h5
          go_wp2
          go_ret
          exact ⟨ret_bool HV.out.symm, Later.rfl' _⟩
        · have h1 : (32 : Int) ≤ ((s[k]'hlt).toNat : Int) := by omega
          have h2 : ((s[k]'hlt).toNat : Int) ≤ 126 := by omega
          have h3 : (((s[k]'hlt).toNat : Int) == 34) = true := by simp; omega
          clear h4
          go_wp2
          go_ret
          exact ⟨ret_bool HV.out.symm, Later.rfl' _⟩
    · go_wp2
      go_ret
      have hv : validText s = decide (s.size ≤ 20) := by
        unfold validText
        rw [all_get (fun j hj => HA.out j hj (by omega))]
        rfl
      exact ⟨ret_bool (by rw [hv]; exact decide_eq_decide.2 (by omega)), Later.rfl' _⟩


end Go.Proofs.YtghemlokpfipoaaDoor
namespace Go.Proofs.YtghemlokpfipoaaDoor
open Go.ChangeShapes Go.WideShapes Go.ChangeAt Go.RowKit
set_option linter.unusedVariables false
set_option linter.unusedSimpArgs false

end Go.Proofs.YtghemlokpfipoaaDoor
namespace Go.Proofs.YtghemlokpfipoaaDoor
open Go.ChangeShapes Go.WideShapes Go.ChangeAt Go.RowKit
set_option linter.unusedVariables false
set_option linter.unusedSimpArgs false

/-- A slice of strings of the call's own. -/
def OwnS (w w' : World) (xs : List ByteArray) (e : Ending) : Prop := ∃ v, e = .returned v ∧ w'.ownsRow w.heap.size 9 1 v xs.length (xs.map .string)

theorem info_string : (Tryd.prog.info? 9).map (fun i => (i.zero, i.size, i.bytes)) = some (some (.string ByteArray.empty), 1, 16) := by kernel_rfl
end Go.Proofs.YtghemlokpfipoaaDoor
