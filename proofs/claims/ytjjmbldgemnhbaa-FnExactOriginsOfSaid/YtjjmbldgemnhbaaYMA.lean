/-
  Lists of strings: the walks of l1Has, IndexOf, AllDistinct, and of the laws' own szStringS, eqStringS, toStringS. The laws' own helpers on lists of strings: szStringS, eqStringS, toStringS; AllDistinct.
-/
import Derived.Test.YtjjmbldgemnhbaaYFrame
import Derived.Test.YtjjmbldgemnhbaaYPlain
import Derived.Deep.QuietTactic
import Derived.BigQuiet
import Derived.Outline
namespace Go.Proofs.Ytjjmbldgemnhbaa
open Go.ChangeShapes Go.WideShapes Go.ChangeAt Go.RowKit
set_option linter.unusedVariables false
set_option linter.unusedSimpArgs false

end Go.Proofs.Ytjjmbldgemnhbaa
namespace Go.Proofs.Ytjjmbldgemnhbaa
open Go.ChangeShapes Go.WideShapes Go.ChangeAt Go.RowKit
set_option linter.unusedVariables false
set_option linter.unusedSimpArgs false

theorem szStringS (v : Value) (xs : List ByteArray) (left : Int) (w : World) (h : Strs w v xs) (h0 : 0 ≤ left) (h1 : left ≤ 1048576) :
    Calls Try.prog 25 #[v, .int .i64 left] w fun e w' => e = .returned (.int .i64 (szR left (costS xs))) ∧ Draws w w' := by
  obtain ⟨⟨hm, hf⟩, A, c, rfl, hlc, hcm, hc⟩ := h
  have HF := Lib.hid hf; clear hf
  by_cases hl : left < (xs.length : Int)
  · have HV : Hid (szR left (costS xs) = -1) := szR_big (by unfold costS; omega)
    go_enter Try.func25, Try.ntmps25
    go_wp2
    go_ret
    exact ⟨ret_int HV.out.symm, Draws.rfl' _⟩
  · have hl' : (xs.length : Int) ≤ left := by omega
    clear hl
    go_enter Try.func25, Try.ntmps25
    go_wp2
    go_loop [1, 5] (fun l i => ∃ k : Nat, k ≤ xs.length ∧ i = .int .i64 k ∧ (xs.length : Int) + ((xs.take k).map ByteArray.size).sum ≤ left ∧ l = .int .i64 (left - xs.length - ((xs.take k).map ByteArray.size).sum)) (fun _ i => xs.length - (intOf i).toNat)
    case atStart => exact ⟨0, Nat.zero_le _, rfl, by simpa using hl', by simp⟩
    case round =>
      obtain ⟨k, hk, rfl, hs, rfl⟩ := hrel
      have hle := sum_take_le xs k
      by_cases hlt : k < xs.length
      · obtain ⟨b, off, rfl, hb, hcell⟩ := hc.at_ (k := k) (by simpa using hlt)
        simp only [List.getElem_map] at hcell
        have hsum := sum_take_succ hlt
        have hle2 := sum_take_le xs (k + 1)
        obtain ⟨x, hx⟩ : ∃ x, x = xs[k] := ⟨_, rfl⟩
        have hxs : x.size ≤ 9223372036854775807 := by rw [hx]; exact HF.out _ (List.getElem_mem hlt)
        rw [← hx] at hcell hsum
        obtain ⟨S, hS⟩ : ∃ S, S = ((xs.take k).map ByteArray.size).sum := ⟨_, rfl⟩
        obtain ⟨S', hS'⟩ : ∃ S, S = ((xs.take (k + 1)).map ByteArray.size).sum := ⟨_, rfl⟩
        obtain ⟨Z, hZ⟩ : ∃ Z, Z = (xs.map ByteArray.size).sum := ⟨_, rfl⟩
        rw [← hS] at hs hle hsum ⊢
        rw [← hS'] at hsum hle2
        rw [← hZ] at hle hle2
        have HS' : Hid (S' = ((xs.take (k + 1)).map ByteArray.size).sum) := hS'
        have HZ : Hid (Z = (xs.map ByteArray.size).sum) := hZ
        have HSUM : Hid (S' = S + x.size) := hsum
        clear hx hS hS' hZ hsum hc
        by_cases hneg : left - xs.length - S - x.size < 0
        · have HV : Hid (szR left (costS xs) = -1) := szR_big (by unfold costS; rw [← HZ.out]; have := HSUM.out; omega)
          go_wp2
          go_ret
          exact ⟨ret_int HV.out.symm, Draws.rfl' _⟩
        · have hpos : 0 ≤ left - xs.length - S - x.size := by omega
          clear hneg
          go_wp2
          go_round
          case rel => exact ⟨k + 1, by omega, by go_num, by rw [← HS'.out, HSUM.out]; push_cast; omega, by rw [← HS'.out, HSUM.out]; push_cast; go_num⟩
          case measure => simp [intOf]; omega
      · have e : xs.take k = xs := List.take_of_length_le (by omega)
        rw [e] at hs ⊢
        have HV : Hid (szR left (costS xs) = left - xs.length - ((xs.map ByteArray.size).sum : Nat)) := by unfold Hid; rw [szR_small (by unfold costS; omega)]; unfold costS; omega
        obtain ⟨Z, hZ⟩ : ∃ Z, Z = (xs.map ByteArray.size).sum := ⟨_, rfl⟩
        rw [← hZ] at hs HV ⊢
        clear hc hle e hZ
        go_wp2
        go_ret
        exact ⟨ret_int HV.out.symm, Draws.rfl' _⟩

theorem eqStringS (v u : Value) (xs ys : List ByteArray) (w : World) (h : Strs w v xs) (h' : Strs w u ys) :
    Calls Try.prog 31 #[v, u] w fun e w' => e = .returned (.bool (eqS xs ys)) ∧ Draws w w' := by
  obtain ⟨⟨hm, hf⟩, A, c, rfl, hlc, hcm, hc⟩ := h
  have HF := Lib.hid hf; clear hf
  obtain ⟨⟨hm', _⟩, A', c', rfl, hlc', hcm', hc'⟩ := h'
  by_cases hl : xs.length = ys.length
  · have hle : ((xs.length : Int) != (ys.length : Int)) = false := by simp [hl]
    have HL : Hid (xs.length = ys.length) := hl
    clear hl
    go_enter Try.func31, Try.ntmps31
    go_wp2
    go_loopw [5] (fun i wr => ∃ k : Nat, k ≤ xs.length ∧ i = .int .i64 k ∧ (∀ j, (hj : j < xs.length) → (hj' : j < ys.length) → j < k → (xs[j].toList == ys[j].toList) = true) ∧ Draws w wr) (fun i _ => xs.length - (intOf i).toNat)
    case atStart => exact ⟨0, Nat.zero_le _, rfl, fun j _ _ h => absurd h (by omega), Draws.rfl' _⟩
    case round =>
      obtain ⟨k, hk, rfl, hall, hw⟩ := hrel
      have HA : Hid (∀ j, (hj : j < xs.length) → (hj' : j < ys.length) → j < k → (xs[j].toList == ys[j].toList) = true) := hall
      clear hall
      by_cases hlt : k < xs.length
      · have hlt' : k < ys.length := by have := HL.out; omega
        obtain ⟨b, off, rfl, hb, hcell⟩ := (hc.later hw.later).at_ (k := k) (by simpa using hlt)
        obtain ⟨b', off', rfl, hb', hcell'⟩ := (hc'.later hw.later).at_ (k := k) (by simpa using hlt')
        simp only [List.getElem_map] at hcell hcell'
        obtain ⟨x, hx⟩ : ∃ x, x = xs[k] := ⟨_, rfl⟩
        obtain ⟨y, hy⟩ : ∃ x, x = ys[k] := ⟨_, rfl⟩
        rw [← hx] at hcell
        rw [← hy] at hcell'
        have HX : Hid (x = xs[k]) := hx
        have HY : Hid (y = ys[k]) := hy
        have hki : (k : Int) < (xs.length : Int) := by omega
        have hki' : (k : Int) < (ys.length : Int) := by omega
        clear hx hy hc hc'
        cases hq : (x.toList == y.toList) with
        | true =>
          have HQ : Hid ((x.toList == y.toList) = true) := hq
          go_wp2
          go_quiet (fail)
          go_wp2
          go_roundw
          case rel => exact ⟨k + 1, by omega, by go_num, fun j hj hj' hjk => if e : j = k then by subst e; rw [← HX.out, ← HY.out]; exact HQ.out else HA.out j hj hj' (by omega), hw.trans (Draws.drewN _ _)⟩
          case measure => simp [intOf]; omega
        | false =>
          have HV : Hid (eqS xs ys = false) := eqS_at hlt hlt' (by rw [← HX.out, ← HY.out]; exact hq)
          go_wp2
          go_quiet (fail)
          go_wp2
          go_ret
          exact ⟨ret_bool HV.out.symm, hw.trans (Draws.drewN _ _)⟩
      · clear hc hc'
        have HV : Hid (eqS xs ys = true) := eqS_all HL.out fun j hj hj' => HA.out j hj hj' (by omega)
        go_wp2
        go_ret
        exact ⟨ret_bool HV.out.symm, hw⟩
  · have hle : ((xs.length : Int) != (ys.length : Int)) = true := by simp; omega
    have HV : Hid (eqS xs ys = false) := eqS_len hl
    clear hl
    go_enter Try.func31, Try.ntmps31
    go_wp2
    go_ret
    exact ⟨ret_bool HV.out.symm, Draws.rfl' _⟩

/-- A slice of strings of the call's own. -/
def OwnS (w w' : World) (xs : List ByteArray) (e : Ending) : Prop := ∃ v, e = .returned v ∧ w'.ownsRow w.heap.size 9 1 v xs.length (xs.map .string)

theorem info_string : (Try.prog.info? 9).map (fun i => (i.zero, i.size, i.bytes)) = some (some (.string ByteArray.empty), 1, 16) := by kernel_rfl
theorem toStringS (v : Value) (xs : List ByteArray) (w : World) (h : Strs w v xs) (hn : xs.length ≤ 1048576) :
    Calls Try.prog 28 #[v] w fun e w' => OwnS w w' xs e ∧ Later w w' := by
  obtain ⟨_, A, c, rfl, hlc, hcm, hc⟩ := h
  obtain ⟨i0, hi, hz0, hz1, hz2⟩ := info_parts info_string
  go_enter Try.func28, Try.ntmps28
  go_wp2_with (at_make; refine wpList_make_full _ rfl _ _ _ rfl w.heap.size 9 i0 (.string ByteArray.empty) 1 Try.underlying31 hi hz0 hz1 .i64 .i64 _ _ xs.length rfl rfl rfl rfl (by rw [hz2]; omega) (by simp only [maxLen]; omega) (Nat.le_refl _) ?_; intro w1 hown hgrow)
  have hown1 : w1.ownsRow w.heap.size 9 1 (.slice (some ⟨w.heap.size, 0, none⟩) xs.length xs.length) xs.length (fillS (xs.map .string) (.string ByteArray.empty) 0) := by
    rw [fillS_zero]
    rw [show (Value.string ByteArray.empty).cells = #[.string ByteArray.empty] from rfl, toList_madeCells_one, Nat.mul_one] at hown
    rw [List.length_map]
    exact hown
  have hl1 : Later w w1 := Below.grown (Below.refl _ _) hgrow (Nat.le_refl _) (fun k hk => by cases hk)
  clear hown hgrow
  go_loopw [4] (fun i wr => ∃ k : Nat, k ≤ xs.length ∧ i = .int .i64 k ∧ wr.ownsRow w.heap.size 9 1 (.slice (some ⟨w.heap.size, 0, none⟩) xs.length xs.length) xs.length (fillS (xs.map .string) (.string ByteArray.empty) k) ∧ Later w wr) (fun i _ => xs.length - (intOf i).toNat)
  case atStart => exact ⟨0, Nat.zero_le _, rfl, hown1, hl1⟩
  case round =>
    clear hown1 hl1
    obtain ⟨k, hk, rfl, hown, hw⟩ := hrel
    by_cases hlt : k < xs.length
    · obtain ⟨b, off, rfl, hb, hcell⟩ := (hc.later hw).at_ (k := k) (by simpa using hlt)
      have hset := fillS_set (xs := xs.map Value.string) (z := .string ByteArray.empty) (k := k) (by simpa using hlt)
      simp only [List.getElem_map] at hcell hset
      have hd : wr.cell? ⟨w.heap.size, k, none⟩ = some (.string ByteArray.empty) := by rw [hown.cellAt k (by omega)]; exact fillS_at (by simpa using hlt)
      have hfr := hown.frozenAt k
      obtain ⟨hst, _⟩ := hown.stored k (.string xs[k])
      rw [hset] at hst
      have hw' : Later w (wr.setCell ⟨w.heap.size, k, none⟩ (.string xs[k])) := Below.setCell hw (Nat.le_refl _) _
      have hki : (k : Int) < (xs.length : Int) := by omega
      obtain ⟨x, hx⟩ : ∃ x, x = xs[k] := ⟨_, rfl⟩
      rw [← hx] at hcell hst hw'
      clear hx hc hset hown hw hb
      go_wp2
      go_roundw
      case rel => exact ⟨k + 1, by omega, by go_num, hst, hw'⟩
      case measure => simp [intOf]; omega
    · have e : fillS (xs.map Value.string) (.string ByteArray.empty) k = xs.map .string := by
        have : k = (xs.map Value.string).length := by simp; omega
        rw [this]
        exact fillS_all _ _
      rw [e] at hown
      clear e hc
      go_wp2
      go_ret
      exact ⟨⟨_, rfl, hown⟩, hw⟩
end Go.Proofs.Ytjjmbldgemnhbaa
