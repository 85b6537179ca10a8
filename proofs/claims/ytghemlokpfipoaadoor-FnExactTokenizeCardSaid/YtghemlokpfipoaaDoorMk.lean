/-
  The laws' marks on texts: markText.
-/
import Derived.Test.YtghemlokpfipoaaDoorOwn
import Derived.Test.YtghemlokpfipoaaDoorFrame
import Derived.Laws.BytesString
import Derived.Deep.RegionHeld3
namespace Go.Proofs.YtghemlokpfipoaaDoor
open Go.ChangeShapes Go.WideShapes Go.ChangeAt Go.RowKit
set_option linter.unusedVariables false
set_option linter.unusedSimpArgs false

/-- A number's digits. -/
def digB (k : Nat) : ByteArray := if h : k = 0 then ByteArray.empty else digB (k / 10) ++ ⟨#[UInt8.ofNat (48 + k % 10)]⟩
decreasing_by omega
theorem digB_zero : digB 0 = ByteArray.empty := by unfold digB; rw [dif_pos rfl]
theorem digB_pos {k : Nat} (h : 0 < k) : digB k = digB (k / 10) ++ ⟨#[UInt8.ofNat (48 + k % 10)]⟩ := by
  conv => lhs; unfold digB
  rw [dif_neg (by omega)]
theorem size_digB (k : Nat) : (digB k).size ≤ k := by
  induction k using Nat.strongRecOn with
  | _ k ih =>
    rcases Nat.eq_zero_or_pos k with h | h
    · subst h; rw [digB_zero]; exact Nat.le_refl _
    · rw [digB_pos h, ByteArray.size_append]
      have := ih (k / 10) (by omega)
      have e : (ByteArray.mk #[UInt8.ofNat (48 + k % 10)]).size = 1 := rfl
      rw [e]
      omega
def markB (k : Nat) : ByteArray := if k = 0 then ⟨#[109, 48]⟩ else ⟨#[109]⟩ ++ digB k

/-- One byte as a string. -/
theorem conv_byte (w : World) (j : Nat) (hj : j < 256) : (convert 28 9 (.slice (some ⟨w.heap.size, 0, none⟩) 1 1)).run Tryd.prog (w.alloc (.cells #[.int .u8 (j : Int)] 5)) = .ok (.string ⟨#[UInt8.ofNat j]⟩) (w.alloc (.cells #[.int .u8 (j : Int)] 5)) := by
  rw [run_convert_bytes_string _ _ _ 5 _ _ _ Tryd.underlying28 Tryd.underlying5 Tryd.underlying9]
  rw [run_bytesToString _ _ 1 1 [(j : Int)] (by simp [loadCells, loadCellsFrom, Addr.add])]
  rfl

theorem markText (k : Nat) (W : World) (hk : k ≤ 1099511627776) : Calls Tryd.prog 19 #[.int .i64 k] W fun r w' => r = .returned (.string (markB k)) ∧ Later W w' := by
  rcases Nat.eq_zero_or_pos k with h0 | h0
  · subst h0
    go_enter Tryd.func19, Tryd.ntmps19
    go_wp2
    go_ret
    exact ⟨rfl, Later.rfl' _⟩
  · have hp : (0 : Int) < (k : Int) := by omega
    have HV : Hid (markB k = ⟨#[109]⟩ ++ digB k) := by unfold Hid markB; rw [if_neg (by omega)]
    have hsz := size_digB k
    go_enter Tryd.func19, Tryd.ntmps19
    go_wp2_with fail
    go_loopw [0, 3] (fun n o wr => ∃ (j : Nat) (s : ByteArray), n = .int .i64 j ∧ o = .string s ∧ digB j ++ s = digB k ∧ j ≤ k ∧ Later W wr) (fun n _ _ => (intOf n).toNat)
    case atStart => exact ⟨k, ByteArray.empty, rfl, rfl, by simp, Nat.le_refl _, Later.rfl' _⟩
    case round =>
      obtain ⟨j, s, rfl, rfl, hs, hj, hw⟩ := hrel
      have hss : s.size ≤ 1099511627776 := by have := congrArg ByteArray.size hs; rw [ByteArray.size_append] at this; omega
      by_cases hj0 : 0 < j
      · have hjp : (0 : Int) < (j : Int) := by omega
        rw [digB_pos hj0] at hs
        have hcv := conv_byte wr (48 + j % 10) (by omega)
        rw [show (((48 + j % 10 : Nat)) : Int) = 48 + (j : Int) % 10 by omega] at hcv
        obtain ⟨D, hD⟩ : ∃ D, D = ByteArray.mk #[UInt8.ofNat (48 + j % 10)] := ⟨_, rfl⟩
        have hDs : D.size = 1 := by rw [hD]; rfl
        rw [← hD] at hcv hs
        clear hD
        have HS := Lib.hid hs
        have HW := Lib.hid hw
        clear hs hw
        go_wp2_with fail
        go_roundw
        case rel => exact ⟨j / 10, D ++ s, by go_num, rfl, by rw [← ByteArray.append_assoc]; exact HS.out, by omega, HW.out.trans ((Later.rfl' _).alloc _)⟩
        case measure => simp [intOf]; omega
      · have : j = 0 := by omega
        subst this
        rw [digB_zero] at hs
        have hs2 : s = digB k := by simpa using hs
        clear hs
        subst hs2
        go_wp2_with fail
        go_ret
        exact ⟨by rw [HV.out]; rfl, hw⟩

end Go.Proofs.YtghemlokpfipoaaDoor
