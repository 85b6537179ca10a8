/-
  The laws' marks on texts: markText.
-/
import Derived.Test.YtjjmbldgemnhbaaDoorOwn
import Derived.Test.YtjjmbldgemnhbaaDoorFrame
import Derived.Laws.BytesString
import Derived.Deep.RegionHeld3
namespace Go.Proofs.YtjjmbldgemnhbaaDoor
open Go.ChangeShapes Go.WideShapes Go.ChangeAt Go.RowKit
set_option linter.unusedVariables false
set_option linter.unusedSimpArgs false

/-- A number's digits. -/
def digB (k : Nat) : ByteArray := if h : k = 0 then ByteArray.empty else digB (k / 10) ++ ⟨#[UInt8.ofNat (48 + k % 10)]⟩
decreasing_by omega
theorem digB_zero : digB 0 = ByteArray.empty := by unfold digB; rw [dif_pos rfl]
theorem digB_pos {k : Nat} (h : 0 < k) : digB k = digB (k / 10) ++ ⟨#[UInt8.ofNat (48 + k % 10)]⟩ := by
  conv => lhs; unfold digB
  rw [dif_neg (by omega)]
theorem size_digB (k : Nat) : (digB k).size ≤ k := by
  induction k using Nat.strongRecOn with
  | _ k ih =>
    rcases Nat.eq_zero_or_pos k with h | h
    · subst h; rw [digB_zero]; exact Nat.le_refl _
    · rw [digB_pos h, ByteArray.size_append]
      have := ih (k / 10) (by omega)
      have e : (ByteArray.mk #[UInt8.ofNat (48 + k % 10)]).size = 1 := rfl
      rw [e]
      omega
def markB (k : Nat) : ByteArray := if k = 0 then ⟨#[109, 48]⟩ else ⟨#[109]⟩ ++ digB k

/-- One byte as a string. -/
theorem conv_byte (w : World) (j : Nat) (hj : j < 256) : (convert 25 9 (.slice (some ⟨w.heap.size, 0, none⟩) 1 1)).run Tryd.prog (w.alloc (.cells #[.int .u8 (j : Int)] 5)) = .ok (.string ⟨#[UInt8.ofNat j]⟩) (w.alloc (.cells #[.int .u8 (j : Int)] 5)) := by
  rw [run_convert_bytes_string _ _ _ 5 _ _ _ Tryd.underlying25 Tryd.underlying5 Tryd.underlying9]
  rw [run_bytesToString _ _ 1 1 [(j : Int)] (by simp [loadCells, loadCellsFrom, Addr.add])]
  rfl

end Go.Proofs.YtjjmbldgemnhbaaDoor
