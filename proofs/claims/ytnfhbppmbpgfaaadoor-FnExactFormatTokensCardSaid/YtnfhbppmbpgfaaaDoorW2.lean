/-
  The laws' marks on lists of strings: markText, markStringS, heldStringS.
-/
import Derived.Test.YtnfhbppmbpgfaaaDoorA4
import Derived.Test.YtnfhbppmbpgfaaaDoorOwn
import Derived.Test.YtnfhbppmbpgfaaaDoorMk
import Derived.Laws.BytesString
import Derived.Deep.RegionHeld3
namespace Go.Proofs.YtnfhbppmbpgfaaaDoor
open Go.ChangeShapes Go.WideShapes Go.ChangeAt Go.RowKit
set_option linter.unusedVariables false
set_option linter.unusedSimpArgs false

theorem own_shape {w : World} {lo e n : Nat} {v : Value} {xs : List Value} (h : w.ownsRow lo e 1 v n xs) : ∃ A c, v = .slice A n c ∧ n ≤ c ∧ c ≤ 9223372036854775807 ∧ (0 < n → ∃ g, A = some ⟨g, 0, none⟩) := by
  rcases h.2 with ⟨rfl, h0⟩ | ⟨g, cap, cur, rfl, hb, hg, hnc, hm, hs, htake⟩
  · subst h0
    exact ⟨none, 0, rfl, Nat.le_refl _, by omega, fun h => absurd h (by omega)⟩
  · exact ⟨_, _, rfl, hnc, by simp only [maxLen] at hm; omega, fun _ => ⟨g, rfl⟩⟩
theorem grown_refl (w : World) (row : Option Nat) : w.grownBy w row := ⟨rfl, rfl, rfl, Nat.le_refl _, fun _ _ _ => rfl⟩
theorem grown_later {w a b : World} {row : Option Nat} (h : w.grownBy a row) (hb : Later a b) : w.grownBy b row :=
  ⟨(Below.os hb).trans h.os, (Below.tape hb).trans h.tape, (Below.output hb).trans h.output, Nat.le_trans h.size hb.size, fun k hk hne => (Below.block hb k (Nat.lt_of_lt_of_le hk h.size)).trans (h.block k hk hne)⟩
theorem grown_set {w a : World} {g o : Nat} {u : Value} (h : w.grownBy a (some g)) : w.grownBy (a.setCell ⟨g, o, none⟩ u) (some g) := by
  have hs := Below.setCell (Below.refl 0 a) (p := ⟨g, o, none⟩) (Nat.zero_le _) u
  refine ⟨(Below.os hs).trans h.os, (Below.tape hs).trans h.tape, (Below.output hs).trans h.output, by rw [World.size_setCell]; exact h.size, fun k hk hne => ?_⟩
  rw [Below.heap_setCell _ _ _ _ (by intro e; exact hne (by rw [e]))]
  exact h.block k hk hne

def marksL (k n : Nat) : List ByteArray := (List.range n).map fun i => markB (k + i)
def marked (k : Nat) (xs : List Value) (j : Nat) : List Value := (marksL k j).map .string ++ xs.drop j
theorem length_marksL (k n : Nat) : (marksL k n).length = n := by simp [marksL]
theorem marked_zero (k : Nat) (xs : List Value) : marked k xs 0 = xs := by simp [marked, marksL]
theorem marked_all {k n : Nat} {xs : List Value} (h : xs.length = n) : marked k xs n = (marksL k n).map .string := by simp [marked, h]
theorem marked_set {k j : Nat} {xs : List Value} (hj : j < xs.length) : (marked k xs j).set j (.string (markB (k + j))) = marked k xs (j + 1) := by
  unfold marked
  rw [List.set_append_right _ _ (by simp [length_marksL]), List.length_map, length_marksL, Nat.sub_self]
  rw [List.drop_eq_getElem_cons hj, List.set_cons_zero]
  simp [marksL, List.range_succ]

theorem markStringS (lo n k : Nat) (v : Value) (xs : List Value) (w : World) (h : w.ownsRow lo 9 1 v n xs) (hk : k + n ≤ 4194304) :
    Calls Tryd.prog 30 #[v, .int .i64 k] w fun r w' => r = .returned (.int .i64 ((k + n : Nat) : Int)) ∧ w'.ownsRow lo 9 1 v n ((marksL k n).map .string) ∧ w.grownBy w' v.ownBlock := by
  obtain ⟨A, c, rfl, hnc, hcm, hA⟩ := own_shape h
  have hl : xs.length = n := by rw [h.1, Nat.mul_one]
  have H0 := Lib.hid h
  clear h
  go_enter Tryd.func30, Tryd.ntmps30
  go_wp2_with fail
  go_loopw [1, 5] (fun s i wr => ∃ j : Nat, j ≤ n ∧ i = .int .i64 j ∧ s = .int .i64 ((k + j : Nat) : Int) ∧ wr.ownsRow lo 9 1 (.slice A n c) n (marked k xs j) ∧ w.grownBy wr (Value.ownBlock (.slice A n c))) (fun _ i _ => n - (intOf i).toNat)
  case atStart => exact ⟨0, Nat.zero_le _, rfl, rfl, by rw [marked_zero]; exact H0.out, grown_refl _ _⟩
  case round =>
    obtain ⟨j, hj, rfl, rfl, hown, hg⟩ := hrel
    by_cases hlt : j < n
    · obtain ⟨g, rfl⟩ := hA (by omega)
      have C := markText (k + j) wr (by omega)
      have hset := marked_set (k := k) (xs := xs) (j := j) (by omega)
      obtain ⟨M, hM⟩ : ∃ M, M = markB (k + j) := ⟨_, rfl⟩
      rw [← hM] at C hset
      have HC := Lib.hid C
      have HOWN := Lib.hid hown
      have HG := Lib.hid hg
      have HSET := Lib.hid hset
      clear C hown hg hM hset
      go_wp2_with fail
      refine HC.out.mono ?_; rintro r w1 ⟨rfl, hb1⟩
      have hown1 := own_later HOWN.out hb1
      obtain ⟨u0, k0, f0⟩ := own_cell hown1 (j := j) (by omega)
      have hst := (hown1.stored j (.string M)).1
      rw [HSET.out] at hst
      have HR := Lib.hid hst
      have HG2 := Lib.hid (grown_set (o := j) (u := .string M) (grown_later HG.out hb1))
      clear hst hown1
      go_wp2_with fail
      go_roundw
      case rel => exact ⟨j + 1, by omega, by go_num, by first | rfl | (congr 1; push_cast; omega) | go_num, HR.out, HG2.out⟩
      case measure => simp [intOf]; omega
    · have e : j = n := by omega
      subst e
      rw [marked_all hl] at hown
      have HOWN := Lib.hid hown
      have HG := Lib.hid hg
      clear hown hg
      go_wp2_with fail
      go_ret
      exact ⟨rfl, HOWN.out, HG.out⟩

theorem heldStringS (lo n k : Nat) (v : Value) (w : World) (h : w.ownsRow lo 9 1 v n ((marksL k n).map .string)) (hk : k + n ≤ 4194304) :
    Calls Tryd.prog 31 #[v, .int .i64 k] w fun r w' => r = .returned (.int .i64 ((k + n : Nat) : Int)) ∧ Later w w' := by
  obtain ⟨A, c, rfl, hnc, hcm, hA⟩ := own_shape h
  have H0 := Lib.hid h
  clear h
  go_enter Tryd.func31, Tryd.ntmps31
  go_wp2_with fail
  go_loopw [1, 5] (fun s i wr => ∃ j : Nat, j ≤ n ∧ i = .int .i64 j ∧ s = .int .i64 ((k + j : Nat) : Int) ∧ Later w wr) (fun _ i _ => n - (intOf i).toNat)
  case atStart => exact ⟨0, Nat.zero_le _, rfl, rfl, Later.rfl' _⟩
  case round =>
    obtain ⟨j, hj, rfl, rfl, hw⟩ := hrel
    by_cases hlt : j < n
    · obtain ⟨g, rfl⟩ := hA (by omega)
      have C := markText (k + j) wr.drew (by omega)
      have hcell := (own_later H0.out hw).cellAt j (by omega)
      rw [show ((marksL k n).map Value.string)[j]? = some (.string (markB (k + j))) by simp [marksL, hlt]] at hcell
      obtain ⟨M, hM⟩ : ∃ M, M = markB (k + j) := ⟨_, rfl⟩
      rw [← hM] at C hcell
      rw [Int.natCast_add] at C
      have HC := Lib.hid C
      have HW := Lib.hid hw
      have hji : (j : Int) < (n : Int) := by omega
      clear C hw hM
      go_wp2_with fail
      go_region_held3 (fun w' => w'.cell? ⟨g, j, none⟩ = some (.string M))
        (first | exact hcell | exact kept_cell hb1 hcell)
        (first | (go_at_call 39; refine HC.out.mono ?_; rintro r w1 ⟨rfl, hb1⟩))
      go_wp2_with fail
      go_roundw
      case rel => exact ⟨j + 1, by omega, by go_num, by first | rfl | (congr 1; push_cast; omega) | go_num, HW.out.trans ((Later.rfl' _).drew.trans hb1)⟩
      case measure => simp [intOf]; omega
    · have e : j = n := by omega
      subst e
      have HW := Lib.hid hw
      clear hw
      go_wp2_with fail
      go_ret
      exact ⟨rfl, HW.out⟩
end Go.Proofs.YtnfhbppmbpgfaaaDoor
