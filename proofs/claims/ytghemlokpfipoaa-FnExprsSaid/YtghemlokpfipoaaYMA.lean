/-
  Lists of strings: the walks of l1Has, IndexOf, AllDistinct, and of the laws' own szStringS, eqStringS, toStringS. The laws' own helpers on lists of strings: szStringS, eqStringS, toStringS; AllDistinct. FnExactIsValidText, FnExactArgumentCount, FnExactIsReserved: the walks of the laws and of what they call. Names: l2Shape, isWord, IsReserved of the reference, IsValidName: the walks. IsValidName: the walks.
-/
import Derived.Test.YtghemlokpfipoaaYFrame
import Derived.Test.YtghemlokpfipoaaYPlain
import Derived.Deep.QuietTactic
import Derived.BigQuiet
import Derived.Outline
import Derived.Test.YtghemlokpfipoaaYWords
namespace Go.Proofs.Ytghemlokpfipoaa
open Go.ChangeShapes Go.WideShapes Go.ChangeAt Go.RowKit
set_option linter.unusedVariables false
set_option linter.unusedSimpArgs false

theorem specl1Has (v : Value) (xs : List ByteArray) (s : ByteArray) (w : World) (h : Strs w v xs) : Calls Try.prog 205 #[v, .string s] w fun e w' => e = .returned (.bool (hasB xs s)) ∧ Draws w w' := by
  obtain ⟨⟨hm, hf⟩, A, c, rfl, hlc, hcm, hc⟩ := h
  have HF := Lib.hid hf; clear hf
  go_enter Try.func205, Try.ntmps205
  go_wp2
  go_loop [5] (fun i => ∃ k : Nat, k ≤ xs.length ∧ i = .int .i64 k ∧ ∀ j, (hj : j < xs.length) → j < k → (xs[j].toList == s.toList) = false) (fun i => xs.length - (intOf i).toNat)
  case atStart => exact ⟨0, Nat.zero_le _, rfl, fun j _ h => absurd h (by omega)⟩
  case round =>
    obtain ⟨k, hk, rfl, hall⟩ := hrel
    have HA : Hid (∀ j, (hj : j < xs.length) → j < k → (xs[j].toList == s.toList) = false) := hall
    clear hall
    by_cases hlt : k < xs.length
    · obtain ⟨b, off, rfl, hb, hcell⟩ := hc.at_ (k := k) (by simpa using hlt)
      simp only [List.getElem_map] at hcell
      obtain ⟨x, hx⟩ : ∃ x, x = xs[k] := ⟨_, rfl⟩
      rw [← hx] at hcell
      have HX : Hid (x = xs[k]) := hx
      clear hx hc
      cases hq : (x.toList == s.toList) with
      | true =>
        have HV : Hid (hasB xs s = true) := has_hit hlt (by rw [← HX.out]; exact hq)
        go_wp2
        go_ret
        exact ⟨ret_bool HV.out.symm, Draws.rfl' _⟩
      | false =>
        have HQ : Hid ((x.toList == s.toList) = false) := hq
        go_wp2
        go_round
        case rel => exact ⟨k + 1, by omega, by go_num, fun j hj hjk => if e : j = k then by subst e; rw [← HX.out]; exact HQ.out else HA.out j hj (by omega)⟩
        case measure => simp [intOf]; omega
    · clear hc
      have HV : Hid (hasB xs s = false) := has_none fun j hj => HA.out j hj (by omega)
      go_wp2
      go_ret
      exact ⟨ret_bool HV.out.symm, Draws.rfl' _⟩
theorem implIndexOf (v : Value) (xs : List ByteArray) (s : ByteArray) (w : World) (h : Strs w v xs) : Calls Try.prog 202 #[v, .string s] w fun e w' => e = .returned (.int .i64 (indexB xs s)) ∧ Draws w w' := by
  obtain ⟨⟨hm, hf⟩, A, c, rfl, hlc, hcm, hc⟩ := h
  have HF := Lib.hid hf; clear hf
  go_enter Try.func202, Try.ntmps202
  go_wp2
  go_loop [9] (fun i => ∃ k : Nat, k ≤ xs.length ∧ i = .int .i64 k ∧ ∀ j, (hj : j < xs.length) → j < k → (xs[j].toList == s.toList) = false) (fun i => xs.length - (intOf i).toNat)
  case atStart => exact ⟨0, Nat.zero_le _, rfl, fun j _ h => absurd h (by omega)⟩
  case round =>
    obtain ⟨k, hk, rfl, hall⟩ := hrel
    have HA : Hid (∀ j, (hj : j < xs.length) → j < k → (xs[j].toList == s.toList) = false) := hall
    clear hall
    by_cases hlt : k < xs.length
    · obtain ⟨b, off, rfl, hb, hcell⟩ := hc.at_ (k := k) (by simpa using hlt)
      simp only [List.getElem_map] at hcell
      obtain ⟨x, hx⟩ : ∃ x, x = xs[k] := ⟨_, rfl⟩
      rw [← hx] at hcell
      have HX : Hid (x = xs[k]) := hx
      clear hx hc
      cases hq : (x.toList == s.toList) with
      | true =>
        have HV : Hid (indexB xs s = k) := index_hit hlt (by rw [← HX.out]; exact hq) HA.out
        go_wp2
        go_ret
        exact ⟨ret_int HV.out.symm, Draws.rfl' _⟩
      | false =>
        have HQ : Hid ((x.toList == s.toList) = false) := hq
        go_wp2
        go_round
        case rel => exact ⟨k + 1, by omega, by go_num, fun j hj hjk => if e : j = k then by subst e; rw [← HX.out]; exact HQ.out else HA.out j hj (by omega)⟩
        case measure => simp [intOf]; omega
    · clear hc
      have HV : Hid (indexB xs s = -1) := index_none fun j hj => HA.out j hj (by omega)
      go_wp2
      go_ret
      exact ⟨ret_int HV.out.symm, Draws.rfl' _⟩
end Go.Proofs.Ytghemlokpfipoaa
namespace Go.Proofs.Ytghemlokpfipoaa
open Go.ChangeShapes Go.WideShapes Go.ChangeAt Go.RowKit
set_option linter.unusedVariables false
set_option linter.unusedSimpArgs false

theorem szStringS (v : Value) (xs : List ByteArray) (left : Int) (w : World) (h : Strs w v xs) (h0 : 0 ≤ left) (h1 : left ≤ 1048576) :
    Calls Try.prog 115 #[v, .int .i64 left] w fun e w' => e = .returned (.int .i64 (szR left (costS xs))) ∧ Draws w w' := by
  obtain ⟨⟨hm, hf⟩, A, c, rfl, hlc, hcm, hc⟩ := h
  have HF := Lib.hid hf; clear hf
  by_cases hl : left < (xs.length : Int)
  · have HV : Hid (szR left (costS xs) = -1) := szR_big (by unfold costS; omega)
    go_enter Try.func115, Try.ntmps115
    go_wp2
    go_ret
    exact ⟨ret_int HV.out.symm, Draws.rfl' _⟩
  · have hl' : (xs.length : Int) ≤ left := by omega
    clear hl
    go_enter Try.func115, Try.ntmps115
    go_wp2
    go_loop [1, 5] (fun l i => ∃ k : Nat, k ≤ xs.length ∧ i = .int .i64 k ∧ (xs.length : Int) + ((xs.take k).map ByteArray.size).sum ≤ left ∧ l = .int .i64 (left - xs.length - ((xs.take k).map ByteArray.size).sum)) (fun _ i => xs.length - (intOf i).toNat)
    case atStart => exact ⟨0, Nat.zero_le _, rfl, by simpa using hl', by simp⟩
    case round =>
      obtain ⟨k, hk, rfl, hs, rfl⟩ := hrel
      have hle := sum_take_le xs k
      by_cases hlt : k < xs.length
      · obtain ⟨b, off, rfl, hb, hcell⟩ := hc.at_ (k := k) (by simpa using hlt)
        simp only [List.getElem_map] at hcell
        have hsum := sum_take_succ hlt
        have hle2 := sum_take_le xs (k + 1)
        obtain ⟨x, hx⟩ : ∃ x, x = xs[k] := ⟨_, rfl⟩
        have hxs : x.size ≤ 9223372036854775807 := by rw [hx]; exact HF.out _ (List.getElem_mem hlt)
        rw [← hx] at hcell hsum
        obtain ⟨S, hS⟩ : ∃ S, S = ((xs.take k).map ByteArray.size).sum := ⟨_, rfl⟩
        obtain ⟨S', hS'⟩ : ∃ S, S = ((xs.take (k + 1)).map ByteArray.size).sum := ⟨_, rfl⟩
        obtain ⟨Z, hZ⟩ : ∃ Z, Z = (xs.map ByteArray.size).sum := ⟨_, rfl⟩
        rw [← hS] at hs hle hsum ⊢
        rw [← hS'] at hsum hle2
        rw [← hZ] at hle hle2
        have HS' : Hid (S' = ((xs.take (k + 1)).map ByteArray.size).sum) := hS'
        have HZ : Hid (Z = (xs.map ByteArray.size).sum) := hZ
        have HSUM : Hid (S' = S + x.size) := hsum
        clear hx hS hS' hZ hsum hc
        by_cases hneg : left - xs.length - S - x.size < 0
        · have HV : Hid (szR left (costS xs) = -1) := szR_big (by unfold costS; rw [← HZ.out]; have := HSUM.out; omega)
          go_wp2
          go_ret
          exact ⟨ret_int HV.out.symm, Draws.rfl' _⟩
        · have hpos : 0 ≤ left - xs.length - S - x.size := by omega
          clear hneg
          go_wp2
          go_round
          case rel => exact ⟨k + 1, by omega, by go_num, by rw [← HS'.out, HSUM.out]; push_cast; omega, by rw [← HS'.out, HSUM.out]; push_cast; go_num⟩
          case measure => simp [intOf]; omega
      · have e : xs.take k = xs := List.take_of_length_le (by omega)
        rw [e] at hs ⊢
        have HV : Hid (szR left (costS xs) = left - xs.length - ((xs.map ByteArray.size).sum : Nat)) := by unfold Hid; rw [szR_small (by unfold costS; omega)]; unfold costS; omega
        obtain ⟨Z, hZ⟩ : ∃ Z, Z = (xs.map ByteArray.size).sum := ⟨_, rfl⟩
        rw [← hZ] at hs HV ⊢
        clear hc hle e hZ
        go_wp2
        go_ret
        exact ⟨ret_int HV.out.symm, Draws.rfl' _⟩

theorem eqStringS (v u : Value) (xs ys : List ByteArray) (w : World) (h : Strs w v xs) (h' : Strs w u ys) :
    Calls Try.prog 101 #[v, u] w fun e w' => e = .returned (.bool (eqS xs ys)) ∧ Draws w w' := by
  obtain ⟨⟨hm, hf⟩, A, c, rfl, hlc, hcm, hc⟩ := h
  have HF := Lib.hid hf; clear hf
  obtain ⟨⟨hm', _⟩, A', c', rfl, hlc', hcm', hc'⟩ := h'
  by_cases hl : xs.length = ys.length
  · have hle : ((xs.length : Int) != (ys.length : Int)) = false := by simp [hl]
    have HL : Hid (xs.length = ys.length) := hl
    clear hl
    go_enter Try.func101, Try.ntmps101
    go_wp2
    go_loopw [5] (fun i wr => ∃ k : Nat, k ≤ xs.length ∧ i = .int .i64 k ∧ (∀ j, (hj : j < xs.length) → (hj' : j < ys.length) → j < k → (xs[j].toList == ys[j].toList) = true) ∧ Draws w wr) (fun i _ => xs.length - (intOf i).toNat)
    case atStart => exact ⟨0, Nat.zero_le _, rfl, fun j _ _ h => absurd h (by omega), Draws.rfl' _⟩
    case round =>
      obtain ⟨k, hk, rfl, hall, hw⟩ := hrel
      have HA : Hid (∀ j, (hj : j < xs.length) → (hj' : j < ys.length) → j < k → (xs[j].toList == ys[j].toList) = true) := hall
      clear hall
      by_cases hlt : k < xs.length
      · have hlt' : k < ys.length := by have := HL.out; omega
        obtain ⟨b, off, rfl, hb, hcell⟩ := (hc.later hw.later).at_ (k := k) (by simpa using hlt)
        obtain ⟨b', off', rfl, hb', hcell'⟩ := (hc'.later hw.later).at_ (k := k) (by simpa using hlt')
        simp only [List.getElem_map] at hcell hcell'
        obtain ⟨x, hx⟩ : ∃ x, x = xs[k] := ⟨_, rfl⟩
        obtain ⟨y, hy⟩ : ∃ x, x = ys[k] := ⟨_, rfl⟩
        rw [← hx] at hcell
        rw [← hy] at hcell'
        have HX : Hid (x = xs[k]) := hx
        have HY : Hid (y = ys[k]) := hy
        have hki : (k : Int) < (xs.length : Int) := by omega
        have hki' : (k : Int) < (ys.length : Int) := by omega
        clear hx hy hc hc'
        cases hq : (x.toList == y.toList) with
        | true =>
          have HQ : Hid ((x.toList == y.toList) = true) := hq
          go_wp2
          go_quiet (fail)
          go_wp2
          go_roundw
          case rel => exact ⟨k + 1, by omega, by go_num, fun j hj hj' hjk => if e : j = k then by subst e; rw [← HX.out, ← HY.out]; exact HQ.out else HA.out j hj hj' (by omega), hw.trans (Draws.drewN _ _)⟩
          case measure => simp [intOf]; omega
        | false =>
          have HV : Hid (eqS xs ys = false) := eqS_at hlt hlt' (by rw [← HX.out, ← HY.out]; exact hq)
          go_wp2
          go_quiet (fail)
          go_wp2
          go_ret
          exact ⟨ret_bool HV.out.symm, hw.trans (Draws.drewN _ _)⟩
      · clear hc hc'
        have HV : Hid (eqS xs ys = true) := eqS_all HL.out fun j hj hj' => HA.out j hj hj' (by omega)
        go_wp2
        go_ret
        exact ⟨ret_bool HV.out.symm, hw⟩
  · have hle : ((xs.length : Int) != (ys.length : Int)) = true := by simp; omega
    have HV : Hid (eqS xs ys = false) := eqS_len hl
    clear hl
    go_enter Try.func101, Try.ntmps101
    go_wp2
    go_ret
    exact ⟨ret_bool HV.out.symm, Draws.rfl' _⟩

/-- A slice of strings of the call's own. -/
def OwnS (w w' : World) (xs : List ByteArray) (e : Ending) : Prop := ∃ v, e = .returned v ∧ w'.ownsRow w.heap.size 9 1 v xs.length (xs.map .string)

theorem info_string : (Try.prog.info? 9).map (fun i => (i.zero, i.size, i.bytes)) = some (some (.string ByteArray.empty), 1, 16) := by kernel_rfl
theorem toStringS (v : Value) (xs : List ByteArray) (w : World) (h : Strs w v xs) (hn : xs.length ≤ 1048576) :
    Calls Try.prog 117 #[v] w fun e w' => OwnS w w' xs e ∧ Later w w' := by
  obtain ⟨_, A, c, rfl, hlc, hcm, hc⟩ := h
  obtain ⟨i0, hi, hz0, hz1, hz2⟩ := info_parts info_string
  go_enter Try.func117, Try.ntmps117
  go_wp2_with (at_make; refine wpList_make_full _ rfl _ _ _ rfl w.heap.size 9 i0 (.string ByteArray.empty) 1 Try.underlying25 hi hz0 hz1 .i64 .i64 _ _ xs.length rfl rfl rfl rfl (by rw [hz2]; omega) (by simp only [maxLen]; omega) (Nat.le_refl _) ?_; intro w1 hown hgrow)
  have hown1 : w1.ownsRow w.heap.size 9 1 (.slice (some ⟨w.heap.size, 0, none⟩) xs.length xs.length) xs.length (fillS (xs.map .string) (.string ByteArray.empty) 0) := by
    rw [fillS_zero]
    rw [show (Value.string ByteArray.empty).cells = #[.string ByteArray.empty] from rfl, toList_madeCells_one, Nat.mul_one] at hown
    rw [List.length_map]
    exact hown
  have hl1 : Later w w1 := Below.grown (Below.refl _ _) hgrow (Nat.le_refl _) (fun k hk => by cases hk)
  clear hown hgrow
  go_loopw [4] (fun i wr => ∃ k : Nat, k ≤ xs.length ∧ i = .int .i64 k ∧ wr.ownsRow w.heap.size 9 1 (.slice (some ⟨w.heap.size, 0, none⟩) xs.length xs.length) xs.length (fillS (xs.map .string) (.string ByteArray.empty) k) ∧ Later w wr) (fun i _ => xs.length - (intOf i).toNat)
  case atStart => exact ⟨0, Nat.zero_le _, rfl, hown1, hl1⟩
  case round =>
    clear hown1 hl1
    obtain ⟨k, hk, rfl, hown, hw⟩ := hrel
    by_cases hlt : k < xs.length
    · obtain ⟨b, off, rfl, hb, hcell⟩ := (hc.later hw).at_ (k := k) (by simpa using hlt)
      have hset := fillS_set (xs := xs.map Value.string) (z := .string ByteArray.empty) (k := k) (by simpa using hlt)
      simp only [List.getElem_map] at hcell hset
      have hd : wr.cell? ⟨w.heap.size, k, none⟩ = some (.string ByteArray.empty) := by rw [hown.cellAt k (by omega)]; exact fillS_at (by simpa using hlt)
      have hfr := hown.frozenAt k
      obtain ⟨hst, _⟩ := hown.stored k (.string xs[k])
      rw [hset] at hst
      have hw' : Later w (wr.setCell ⟨w.heap.size, k, none⟩ (.string xs[k])) := Below.setCell hw (Nat.le_refl _) _
      have hki : (k : Int) < (xs.length : Int) := by omega
      obtain ⟨x, hx⟩ : ∃ x, x = xs[k] := ⟨_, rfl⟩
      rw [← hx] at hcell hst hw'
      clear hx hc hset hown hw hb
      go_wp2
      go_roundw
      case rel => exact ⟨k + 1, by omega, by go_num, hst, hw'⟩
      case measure => simp [intOf]; omega
    · have e : fillS (xs.map Value.string) (.string ByteArray.empty) k = xs.map .string := by
        have : k = (xs.map Value.string).length := by simp; omega
        rw [this]
        exact fillS_all _ _
      rw [e] at hown
      clear e hc
      go_wp2
      go_ret
      exact ⟨⟨_, rfl, hown⟩, hw⟩
end Go.Proofs.Ytghemlokpfipoaa
namespace Go.Proofs.Ytghemlokpfipoaa
open Go.ChangeShapes Go.WideShapes Go.ChangeAt Go.RowKit
open Go.ChangeMaps (open_string shut_string)
set_option linter.unusedVariables false
set_option linter.unusedSimpArgs false

def okByte (c : UInt8) : Bool := decide (32 ≤ c.toNat) && decide (c.toNat ≤ 126) && !decide (c.toNat = 34)
def validText (s : ByteArray) : Bool := s.data.toList.all okByte && decide (s.size ≤ 20)

theorem all_get {p : UInt8 → Bool} {s : ByteArray} (h : ∀ j, (hj : j < s.size) → p (s[j]'hj) = true) : s.data.toList.all p = true := by
  rw [List.all_eq_true]
  intro x hx
  obtain ⟨j, hj, rfl⟩ := List.getElem_of_mem hx
  exact h j (by simpa using hj)
theorem all_not {p : UInt8 → Bool} {s : ByteArray} {j : Nat} (hj : j < s.size) (h : p (s[j]'hj) = false) : s.data.toList.all p = false := by
  rw [List.all_eq_false]
  exact ⟨s[j], by simp only [ByteArray.getElem_eq_getElem_data]; exact Array.getElem_mem_toList _, by simp [h]⟩

theorem specIsValidText (s : ByteArray) (w : World) (hs : s.size ≤ maxLen) : Calls Try.prog 96 #[.string s] w fun e w' => e = .returned (.bool (validText s)) ∧ Later w w' := by
  unfold maxLen at hs
  go_enter Try.func96, Try.ntmps96
  go_wp2
  go_loop [3] (fun i => ∃ k : Nat, k ≤ s.size ∧ i = .int .i64 k ∧ ∀ j, (hj : j < s.size) → j < k → okByte (s[j]'hj) = true) (fun i => s.size - (intOf i).toNat)
  case atStart => exact ⟨0, Nat.zero_le _, rfl, fun j _ h => absurd h (by omega)⟩
  case round =>
    obtain ⟨k, hk, rfl, hall⟩ := hrel
    have HA : Hid (∀ j, (hj : j < s.size) → j < k → okByte (s[j]'hj) = true) := hall
    clear hall
    by_cases hlt : k < s.size
    · cases hb : okByte (s[k]'hlt) with
      | true =>
        have hb' := hb
        have HB : Hid (okByte (s[k]'hlt) = true) := hb
        simp only [okByte, Bool.and_eq_true, decide_eq_true_eq, Bool.not_eq_true', decide_eq_false_iff_not] at hb'
        have h1 : (32 : Int) ≤ ((s[k]'hlt).toNat : Int) := by omega
        have h2 : ((s[k]'hlt).toNat : Int) ≤ 126 := by omega
        have h3 : (((s[k]'hlt).toNat : Int) == 34) = false := by simp; omega
        clear hb hb'
        go_wp2
        go_round
        case rel => exact ⟨k + 1, by omega, by go_num, fun j hj hjk => if e : j = k then by subst e; exact HB.out else HA.out j hj (by omega)⟩
        case measure => simp [intOf]; omega
      | false =>
        have hv : validText s = false := by simp [validText, all_not hlt hb]
        have HV : Hid (validText s = false) := hv
        simp only [okByte, Bool.and_eq_false_iff, decide_eq_false_iff_not, Bool.not_eq_false', decide_eq_true_eq] at hb
        clear hv
        have h4 : (s[k]'hlt).toNat < 32 ∨ (32 ≤ (s[k]'hlt).toNat ∧ 126 < (s[k]'hlt).toNat) ∨ (s[k]'hlt).toNat = 34 := by omega
        clear hb
        rcases h4 with h4 | ⟨h4, h5⟩ | h4
        · have h1 : ((s[k]'hlt).toNat : Int) < 32 := by omega
          clear h4
          go_wp2
          go_ret
          exact ⟨ret_bool HV.out.symm, Later.rfl' _⟩
        · have h1 : (32 : Int) ≤ ((s[k]'hlt).toNat : Int) := by omega
          have h2 : (126 : Int) < ((s[k]'hlt).toNat : Int) := by omega
          clear h4 h5
          go_wp2
          go_ret
          exact ⟨ret_bool HV.out.symm, Later.rfl' _⟩
        · have h1 : (32 : Int) ≤ ((s[k]'hlt).toNat : Int) := by omega
          have h2 : ((s[k]'hlt).toNat : Int) ≤ 126 := by omega
          have h3 : (((s[k]'hlt).toNat : Int) == 34) = true := by simp; omega
          clear h4
          go_wp2
          go_ret
          exact ⟨ret_bool HV.out.symm, Later.rfl' _⟩
    · go_wp2
      go_ret
      have hv : validText s = decide (s.size ≤ 20) := by
        unfold validText
        rw [all_get (fun j hj => HA.out j hj (by omega))]
        rfl
      exact ⟨ret_bool (by rw [hv]; exact decide_eq_decide.2 (by omega)), Later.rfl' _⟩

theorem implIsValidText (s : ByteArray) (w : World) (hs : s.size ≤ maxLen) : Calls Try.prog 67 #[.string s] w fun e w' => e = .returned (.bool (validText s)) ∧ Later w w' := by
  unfold maxLen at hs
  go_enter Try.func67, Try.ntmps67
  go_wp2
  go_loop [3] (fun i => ∃ k : Nat, k ≤ s.size ∧ i = .int .i64 k ∧ ∀ j, (hj : j < s.size) → j < k → okByte (s[j]'hj) = true) (fun i => s.size - (intOf i).toNat)
  case atStart => exact ⟨0, Nat.zero_le _, rfl, fun j _ h => absurd h (by omega)⟩
  case round =>
    obtain ⟨k, hk, rfl, hall⟩ := hrel
    have HA : Hid (∀ j, (hj : j < s.size) → j < k → okByte (s[j]'hj) = true) := hall
    clear hall
    by_cases hlt : k < s.size
    · cases hb : okByte (s[k]'hlt) with
      | true =>
        have hb' := hb
        have HB : Hid (okByte (s[k]'hlt) = true) := hb
        simp only [okByte, Bool.and_eq_true, decide_eq_true_eq, Bool.not_eq_true', decide_eq_false_iff_not] at hb'
        have h1 : (32 : Int) ≤ ((s[k]'hlt).toNat : Int) := by omega
        have h2 : ((s[k]'hlt).toNat : Int) ≤ 126 := by omega
        have h3 : (((s[k]'hlt).toNat : Int) == 34) = false := by simp; omega
        clear hb hb'
        go_wp2
        go_round
        case rel => exact ⟨k + 1, by omega, by go_num, fun j hj hjk => if e : j = k then by subst e; exact HB.out else HA.out j hj (by omega)⟩
        case measure => simp [intOf]; omega
      | false =>
        have hv : validText s = false := by simp [validText, all_not hlt hb]
        have HV : Hid (validText s = false) := hv
        simp only [okByte, Bool.and_eq_false_iff, decide_eq_false_iff_not, Bool.not_eq_false', decide_eq_true_eq] at hb
        clear hv
        have h4 : (s[k]'hlt).toNat < 32 ∨ (32 ≤ (s[k]'hlt).toNat ∧ 126 < (s[k]'hlt).toNat) ∨ (s[k]'hlt).toNat = 34 := by omega
        clear hb
        rcases h4 with h4 | ⟨h4, h5⟩ | h4
        · have h1 : ((s[k]'hlt).toNat : Int) < 32 := by omega
          clear h4
          go_wp2
          go_ret
          exact ⟨ret_bool HV.out.symm, Later.rfl' _⟩
        · have h1 : (32 : Int) ≤ ((s[k]'hlt).toNat : Int) := by omega
          have h2 : (126 : Int) < ((s[k]'hlt).toNat : Int) := by omega
          clear h4 h5
          go_wp2
          go_ret
          exact ⟨ret_bool HV.out.symm, Later.rfl' _⟩
        · have h1 : (32 : Int) ≤ ((s[k]'hlt).toNat : Int) := by omega
          have h2 : ((s[k]'hlt).toNat : Int) ≤ 126 := by omega
          have h3 : (((s[k]'hlt).toNat : Int) == 34) = true := by simp; omega
          clear h4
          go_wp2
          go_ret
          exact ⟨ret_bool HV.out.symm, Later.rfl' _⟩
    · go_wp2
      go_ret
      have hv : validText s = decide (s.size ≤ 20) := by
        unfold validText
        rw [all_get (fun j hj => HA.out j hj (by omega))]
        rfl
      exact ⟨ret_bool (by rw [hv]; exact decide_eq_decide.2 (by omega)), Later.rfl' _⟩


theorem specArgumentCount (s : ByteArray) (w : World) (hs : s.size ≤ maxLen) : Calls Try.prog 197 #[.string s] w fun e w' => e = .returned (.int .i64 (argCount s)) ∧ Later w w' := by
  rcases arg_ways s with ⟨h0, hr⟩ | ⟨h0, h1, hr⟩ | ⟨h0, h1, h2, hr⟩ | ⟨h0, h1, h2, h3, hr⟩ | ⟨h0, h1, h2, h3, h4, hr⟩ | ⟨h0, h1, h2, h3, h4, h5, hr⟩ | ⟨h0, h1, h2, h3, h4, h5, h6, hr⟩ | ⟨h0, h1, h2, h3, h4, h5, h6, h7, hr⟩ | ⟨h0, h1, h2, h3, h4, h5, h6, h7, h8, hr⟩ | ⟨h0, h1, h2, h3, h4, h5, h6, h7, h8, h9, hr⟩ | ⟨h0, h1, h2, h3, h4, h5, h6, h7, h8, h9, h10, hr⟩ | ⟨h0, h1, h2, h3, h4, h5, h6, h7, h8, h9, h10, h11, hr⟩ | ⟨h0, h1, h2, h3, h4, h5, h6, h7, h8, h9, h10, h11, h12, hr⟩ | ⟨h0, h1, h2, h3, h4, h5, h6, h7, h8, h9, h10, h11, h12, h13, hr⟩ | ⟨h0, h1, h2, h3, h4, h5, h6, h7, h8, h9, h10, h11, h12, h13, h14, hr⟩ | ⟨h0, h1, h2, h3, h4, h5, h6, h7, h8, h9, h10, h11, h12, h13, h14, h15, hr⟩ | ⟨h0, h1, h2, h3, h4, h5, h6, h7, h8, h9, h10, h11, h12, h13, h14, h15, h16, hr⟩ | ⟨h0, h1, h2, h3, h4, h5, h6, h7, h8, h9, h10, h11, h12, h13, h14, h15, h16, hr⟩
  all_goals
    go_enter Try.func197, Try.ntmps197
    go_wp2
    go_ret
    exact ⟨ret_int hr.out.symm, Later.rfl' _⟩

theorem implArgumentCount (s : ByteArray) (w : World) (hs : s.size ≤ maxLen) : Calls Try.prog 61 #[.string s] w fun e w' => e = .returned (.int .i64 (argCount s)) ∧ Later w w' := by
  rcases arg_ways s with ⟨h0, hr⟩ | ⟨h0, h1, hr⟩ | ⟨h0, h1, h2, hr⟩ | ⟨h0, h1, h2, h3, hr⟩ | ⟨h0, h1, h2, h3, h4, hr⟩ | ⟨h0, h1, h2, h3, h4, h5, hr⟩ | ⟨h0, h1, h2, h3, h4, h5, h6, hr⟩ | ⟨h0, h1, h2, h3, h4, h5, h6, h7, hr⟩ | ⟨h0, h1, h2, h3, h4, h5, h6, h7, h8, hr⟩ | ⟨h0, h1, h2, h3, h4, h5, h6, h7, h8, h9, hr⟩ | ⟨h0, h1, h2, h3, h4, h5, h6, h7, h8, h9, h10, hr⟩ | ⟨h0, h1, h2, h3, h4, h5, h6, h7, h8, h9, h10, h11, hr⟩ | ⟨h0, h1, h2, h3, h4, h5, h6, h7, h8, h9, h10, h11, h12, hr⟩ | ⟨h0, h1, h2, h3, h4, h5, h6, h7, h8, h9, h10, h11, h12, h13, hr⟩ | ⟨h0, h1, h2, h3, h4, h5, h6, h7, h8, h9, h10, h11, h12, h13, h14, hr⟩ | ⟨h0, h1, h2, h3, h4, h5, h6, h7, h8, h9, h10, h11, h12, h13, h14, h15, hr⟩ | ⟨h0, h1, h2, h3, h4, h5, h6, h7, h8, h9, h10, h11, h12, h13, h14, h15, h16, hr⟩ | ⟨h0, h1, h2, h3, h4, h5, h6, h7, h8, h9, h10, h11, h12, h13, h14, h15, h16, hr⟩
  all_goals
    go_enter Try.func61, Try.ntmps61
    go_wp2
    go_ret
    exact ⟨ret_int hr.out.symm, Later.rfl' _⟩

theorem implIsReserved (s : ByteArray) (w : World) (hs : s.size ≤ maxLen) : Calls Try.prog 201 #[.string s] w fun e w' => e = .returned (.bool (isReserved s)) ∧ Later w w' := by
  rcases kw_ways s with ⟨h0, hr⟩ | ⟨h0, h1, hr⟩ | ⟨h0, h1, h2, hr⟩ | ⟨h0, h1, h2, h3, hr⟩ | ⟨h0, h1, h2, h3, h4, hr⟩ | ⟨h0, h1, h2, h3, h4, h5, hr⟩ | ⟨h0, h1, h2, h3, h4, h5, h6, hr⟩ | ⟨h0, h1, h2, h3, h4, h5, h6, hr⟩
  case inr.inr.inr.inr.inr.inr.inr =>
    go_enter Try.func201, Try.ntmps201
    go_wp2_with (first | (go_at_call 61; refine (implArgumentCount _ _ hs).mono ?_; rintro e w1 ⟨rfl, hb1⟩))
    go_ret
    exact ⟨ret_bool hr.out.symm, hb1⟩
  all_goals
    go_enter Try.func201, Try.ntmps201
    go_wp2
    go_ret
    exact ⟨ret_bool hr.out.symm, Later.rfl' _⟩

end Go.Proofs.Ytghemlokpfipoaa
namespace Go.Proofs.Ytghemlokpfipoaa
open Go.ChangeShapes Go.WideShapes Go.ChangeAt Go.RowKit
set_option linter.unusedVariables false
set_option linter.unusedSimpArgs false

def RetStrs (w' : World) (xs : List ByteArray) (e : Ending) : Prop := ∃ v, e = .returned v ∧ Strs w' v xs

theorem specl2Reserved (w : World) : Calls Try.prog 216 #[] w fun e w' => RetStrs w' reservedList e ∧ Later w w' := by
  go_enter Try.func216, Try.ntmps216
  go_wp2
  go_ret
  refine ⟨⟨_, rfl, Strs.of_own (e := 9) (base := 0) (by decide) ?_⟩, (Later.rfl' _).alloc _⟩
  exact World.ownsRow_lit w _ 24 (Nat.zero_le _) (by simp [maxLen]) rfl

theorem specIsReserved (s : ByteArray) (w : World) (hs : s.size ≤ maxLen) : Calls Try.prog 204 #[.string s] w fun e w' => e = .returned (.bool (isReserved s)) ∧ Later w w' := by
  go_enter Try.func204, Try.ntmps204
  go_wp2_with (first | (go_at_call 216; refine (specl2Reserved _).mono ?_; rintro e w1 ⟨⟨v, rfl, hs⟩, hb1⟩) | (go_at_call 205; refine (specl1Has _ _ _ _ hs).mono ?_; rintro e w2 ⟨rfl, hb2⟩))
  go_ret
  exact ⟨ret_bool (hasB_reserved s), hb1.trans hb2.later⟩

def okAt (k c : Nat) : Bool := (decide (97 ≤ c) && decide (c ≤ 122)) || (decide (0 < k) && decide (48 ≤ c) && decide (c ≤ 57))
def shapeB (s : ByteArray) : Bool := decide (∀ k, (h : k < s.size) → okAt k (s[k]'h).toNat = true)
theorem shape_hit {s : ByteArray} {k : Nat} (h : k < s.size) (hq : okAt k (s[k]'h).toNat = false) : shapeB s = false := by
  simp only [shapeB, decide_eq_false_iff_not]
  intro hall
  rw [hall k h] at hq
  cases hq
theorem shape_all {s : ByteArray} (h : ∀ k, (h : k < s.size) → okAt k (s[k]'h).toNat = true) : shapeB s = true := by
  simp only [shapeB, decide_eq_true_eq]
  exact h
theorem ok_ways {k c : Nat} (h : okAt k c = true) : (97 ≤ c ∧ c ≤ 122) ∨ (0 < k ∧ 48 ≤ c ∧ c ≤ 57) := by
  simp only [okAt, Bool.or_eq_true, Bool.and_eq_true, decide_eq_true_eq] at h
  omega
theorem bad_ways {k c : Nat} (h : okAt k c = false) : (k = 0 ∧ (c < 97 ∨ 122 < c)) ∨ (0 < k ∧ (c < 48 ∨ (57 < c ∧ c < 97) ∨ 122 < c)) := by
  simp only [okAt, Bool.or_eq_false_iff, Bool.and_eq_false_iff, decide_eq_false_iff_not] at h
  omega
def wordS (s : ByteArray) : Bool := shapeB s && decide (0 < s.size)
def wordI (s : ByteArray) : Bool := shapeB s && (decide (1 ≤ s.size) && decide (s.size ≤ 8))
def validName (s : ByteArray) : Bool := wordI s && !isReserved s


set_option maxHeartbeats 400000 in
theorem specl2Shape (s : ByteArray) (w : World) (hs : s.size ≤ maxLen) : Calls Try.prog 203 #[.string s] w fun e w' => e = .returned (.bool (wordS s)) ∧ Later w w' := by
  unfold maxLen at hs
  go_enter Try.func203, Try.ntmps203
  go_wp2
  go_loop [3] (fun i => ∃ k : Nat, k ≤ s.size ∧ i = .int .i64 k ∧ ∀ j, (hj : j < s.size) → j < k → okAt j (s[j]'hj).toNat = true) (fun i => s.size - (intOf i).toNat)
  case atStart => exact ⟨0, Nat.zero_le _, rfl, fun j _ h => absurd h (by omega)⟩
  case round =>
    obtain ⟨k, hk, rfl, hall⟩ := hrel
    have HA : Hid (∀ j, (hj : j < s.size) → j < k → okAt j (s[j]'hj).toNat = true) := hall
    clear hall
    by_cases hlt : k < s.size
    · cases hb : okAt k (s[k]'hlt).toNat with
      | true =>
        have HB : Hid (okAt k (s[k]'hlt).toNat = true) := hb
        have hways := ok_ways hb
        clear hb
        rcases hways with ⟨h1, h2⟩ | ⟨h0, h1, h2⟩
        · have g1 : (97 : Int) ≤ ((s[k]'hlt).toNat : Int) := by omega
          have g2 : ((s[k]'hlt).toNat : Int) ≤ 122 := by omega
          clear h1 h2
          go_wp2
          go_round
          case rel => exact ⟨k + 1, by omega, by go_num, fun j hj hjk => if e : j = k then by subst e; exact HB.out else HA.out j hj (by omega)⟩
          case measure => simp [intOf]; omega
        · have g1 : (48 : Int) ≤ ((s[k]'hlt).toNat : Int) := by omega
          have g2 : ((s[k]'hlt).toNat : Int) ≤ 57 := by omega
          have g3 : ¬ (97 : Int) ≤ ((s[k]'hlt).toNat : Int) := by omega
          have g4 : decide ((97 : Int) ≤ ((s[k]'hlt).toNat : Int)) = false := by simpa using g3
          have g0 : ((k : Int) == 0) = false := by simp; omega
          clear h1 h2 g3
          go_wp2
          go_round
          case rel => exact ⟨k + 1, by omega, by go_num, fun j hj hjk => if e : j = k then by subst e; exact HB.out else HA.out j hj (by omega)⟩
          case measure => simp [intOf]; omega
      | false =>
        have HV : Hid (wordS s = false) := by unfold Hid; simp [wordS, shape_hit hlt hb]
        have hways := bad_ways hb
        clear hb
        rcases hways with ⟨rfl, h1 | h1⟩ | ⟨h0, h1 | ⟨h1, h2⟩ | h1⟩
        · have g1 : ((s[0]'hlt).toNat : Int) < 97 := by omega
          have g4 : decide ((97 : Int) ≤ ((s[0]'hlt).toNat : Int)) = false := by simp; omega
          clear h1
          go_wp2
          all_goals (go_ret; exact ⟨ret_bool HV.out.symm, Later.rfl' _⟩)
        · have g1 : (122 : Int) < ((s[0]'hlt).toNat : Int) := by omega
          have g5 : (97 : Int) ≤ ((s[0]'hlt).toNat : Int) := by omega
          have g4 : decide (((s[0]'hlt).toNat : Int) ≤ 122) = false := by simp; omega
          clear h1
          go_wp2
          all_goals (go_ret; exact ⟨ret_bool HV.out.symm, Later.rfl' _⟩)
        · have g1 : ((s[k]'hlt).toNat : Int) < 48 := by omega
          have g4 : decide ((97 : Int) ≤ ((s[k]'hlt).toNat : Int)) = false := by simp; omega
          have g5 : decide ((48 : Int) ≤ ((s[k]'hlt).toNat : Int)) = false := by simp; omega
          have g0 : ((k : Int) == 0) = false := by simp; omega
          clear h1
          go_wp2
          all_goals (go_ret; exact ⟨ret_bool HV.out.symm, Later.rfl' _⟩)
        · have g1 : (57 : Int) < ((s[k]'hlt).toNat : Int) := by omega
          have g2 : ((s[k]'hlt).toNat : Int) < 97 := by omega
          have g3 : (48 : Int) ≤ ((s[k]'hlt).toNat : Int) := by omega
          have g4 : decide ((97 : Int) ≤ ((s[k]'hlt).toNat : Int)) = false := by simp; omega
          have g5 : decide (((s[k]'hlt).toNat : Int) ≤ 57) = false := by simp; omega
          have g0 : ((k : Int) == 0) = false := by simp; omega
          clear h1 h2
          go_wp2
          all_goals (go_ret; exact ⟨ret_bool HV.out.symm, Later.rfl' _⟩)
        · have g1 : (122 : Int) < ((s[k]'hlt).toNat : Int) := by omega
          have g3 : (97 : Int) ≤ ((s[k]'hlt).toNat : Int) := by omega
          have g4 : decide (((s[k]'hlt).toNat : Int) ≤ 122) = false := by simp; omega
          have g6 : (48 : Int) ≤ ((s[k]'hlt).toNat : Int) := by omega
          have g5 : decide (((s[k]'hlt).toNat : Int) ≤ 57) = false := by simp; omega
          have g0 : ((k : Int) == 0) = false := by simp; omega
          clear h1
          go_wp2
          all_goals (go_ret; exact ⟨ret_bool HV.out.symm, Later.rfl' _⟩)
    · have HV : Hid (wordS s = decide (0 < s.size)) := by
        unfold Hid wordS
        rw [shape_all fun j hj => HA.out j hj (by omega)]
        rfl
      go_wp2
      all_goals (go_ret; exact ⟨ret_bool (by refine Eq.trans ?_ HV.out.symm; first | rfl | (rw [decide_eq_true (show 1 ≤ s.size by omega), Bool.true_and]; exact decide_eq_decide.2 (by omega)) | (rw [decide_eq_false (show ¬ 1 ≤ s.size by omega)]; rfl)), Later.rfl' _⟩)

set_option maxHeartbeats 400000 in
theorem implisWord (s : ByteArray) (w : World) (hs : s.size ≤ maxLen) : Calls Try.prog 200 #[.string s] w fun e w' => e = .returned (.bool (wordI s)) ∧ Later w w' := by
  unfold maxLen at hs
  go_enter Try.func200, Try.ntmps200
  go_wp2
  go_loop [3] (fun i => ∃ k : Nat, k ≤ s.size ∧ i = .int .i64 k ∧ ∀ j, (hj : j < s.size) → j < k → okAt j (s[j]'hj).toNat = true) (fun i => s.size - (intOf i).toNat)
  case atStart => exact ⟨0, Nat.zero_le _, rfl, fun j _ h => absurd h (by omega)⟩
  case round =>
    obtain ⟨k, hk, rfl, hall⟩ := hrel
    have HA : Hid (∀ j, (hj : j < s.size) → j < k → okAt j (s[j]'hj).toNat = true) := hall
    clear hall
    by_cases hlt : k < s.size
    · cases hb : okAt k (s[k]'hlt).toNat with
      | true =>
        have HB : Hid (okAt k (s[k]'hlt).toNat = true) := hb
        have hways := ok_ways hb
        clear hb
        rcases hways with ⟨h1, h2⟩ | ⟨h0, h1, h2⟩
        · have g1 : (97 : Int) ≤ ((s[k]'hlt).toNat : Int) := by omega
          have g2 : ((s[k]'hlt).toNat : Int) ≤ 122 := by omega
          clear h1 h2
          go_wp2
          go_round
          case rel => exact ⟨k + 1, by omega, by go_num, fun j hj hjk => if e : j = k then by subst e; exact HB.out else HA.out j hj (by omega)⟩
          case measure => simp [intOf]; omega
        · have g1 : (48 : Int) ≤ ((s[k]'hlt).toNat : Int) := by omega
          have g2 : ((s[k]'hlt).toNat : Int) ≤ 57 := by omega
          have g3 : ¬ (97 : Int) ≤ ((s[k]'hlt).toNat : Int) := by omega
          have g4 : decide ((97 : Int) ≤ ((s[k]'hlt).toNat : Int)) = false := by simpa using g3
          have g0 : ((k : Int) == 0) = false := by simp; omega
          clear h1 h2 g3
          go_wp2
          go_round
          case rel => exact ⟨k + 1, by omega, by go_num, fun j hj hjk => if e : j = k then by subst e; exact HB.out else HA.out j hj (by omega)⟩
          case measure => simp [intOf]; omega
      | false =>
        have HV : Hid (wordI s = false) := by unfold Hid; simp [wordI, shape_hit hlt hb]
        have hways := bad_ways hb
        clear hb
        rcases hways with ⟨rfl, h1 | h1⟩ | ⟨h0, h1 | ⟨h1, h2⟩ | h1⟩
        · have g1 : ((s[0]'hlt).toNat : Int) < 97 := by omega
          have g4 : decide ((97 : Int) ≤ ((s[0]'hlt).toNat : Int)) = false := by simp; omega
          clear h1
          go_wp2
          all_goals (go_ret; exact ⟨ret_bool HV.out.symm, Later.rfl' _⟩)
        · have g1 : (122 : Int) < ((s[0]'hlt).toNat : Int) := by omega
          have g5 : (97 : Int) ≤ ((s[0]'hlt).toNat : Int) := by omega
          have g4 : decide (((s[0]'hlt).toNat : Int) ≤ 122) = false := by simp; omega
          clear h1
          go_wp2
          all_goals (go_ret; exact ⟨ret_bool HV.out.symm, Later.rfl' _⟩)
        · have g1 : ((s[k]'hlt).toNat : Int) < 48 := by omega
          have g4 : decide ((97 : Int) ≤ ((s[k]'hlt).toNat : Int)) = false := by simp; omega
          have g5 : decide ((48 : Int) ≤ ((s[k]'hlt).toNat : Int)) = false := by simp; omega
          have g0 : ((k : Int) == 0) = false := by simp; omega
          clear h1
          go_wp2
          all_goals (go_ret; exact ⟨ret_bool HV.out.symm, Later.rfl' _⟩)
        · have g1 : (57 : Int) < ((s[k]'hlt).toNat : Int) := by omega
          have g2 : ((s[k]'hlt).toNat : Int) < 97 := by omega
          have g3 : (48 : Int) ≤ ((s[k]'hlt).toNat : Int) := by omega
          have g4 : decide ((97 : Int) ≤ ((s[k]'hlt).toNat : Int)) = false := by simp; omega
          have g5 : decide (((s[k]'hlt).toNat : Int) ≤ 57) = false := by simp; omega
          have g0 : ((k : Int) == 0) = false := by simp; omega
          clear h1 h2
          go_wp2
          all_goals (go_ret; exact ⟨ret_bool HV.out.symm, Later.rfl' _⟩)
        · have g1 : (122 : Int) < ((s[k]'hlt).toNat : Int) := by omega
          have g3 : (97 : Int) ≤ ((s[k]'hlt).toNat : Int) := by omega
          have g4 : decide (((s[k]'hlt).toNat : Int) ≤ 122) = false := by simp; omega
          have g6 : (48 : Int) ≤ ((s[k]'hlt).toNat : Int) := by omega
          have g5 : decide (((s[k]'hlt).toNat : Int) ≤ 57) = false := by simp; omega
          have g0 : ((k : Int) == 0) = false := by simp; omega
          clear h1
          go_wp2
          all_goals (go_ret; exact ⟨ret_bool HV.out.symm, Later.rfl' _⟩)
    · have HV : Hid (wordI s = (decide (1 ≤ s.size) && decide (s.size ≤ 8))) := by
        unfold Hid wordI
        rw [shape_all fun j hj => HA.out j hj (by omega)]
        rfl
      go_wp2
      all_goals (go_ret; exact ⟨ret_bool (by refine Eq.trans ?_ HV.out.symm; first | rfl | (rw [decide_eq_true (show 1 ≤ s.size by omega), Bool.true_and]; exact decide_eq_decide.2 (by omega)) | (rw [decide_eq_false (show ¬ 1 ≤ s.size by omega)]; rfl)), Later.rfl' _⟩)
end Go.Proofs.Ytghemlokpfipoaa
namespace Go.Proofs.Ytghemlokpfipoaa
open Go.ChangeShapes Go.WideShapes Go.ChangeAt Go.RowKit
set_option linter.unusedVariables false
set_option linter.unusedSimpArgs false

theorem word_true {s : ByteArray} (h : wordS s = true) (h8 : s.size ≤ 8) : wordI s = true := by
  simp only [wordS, Bool.and_eq_true, decide_eq_true_eq] at h
  simp only [wordI, h.1, Bool.true_and, Bool.and_eq_true, decide_eq_true_eq]
  omega
theorem word_long {s : ByteArray} (h8 : ¬ s.size ≤ 8) : wordI s = false := by
  simp [wordI, h8]
theorem word_false {s : ByteArray} (h : wordS s = false) : wordI s = false := by
  simp only [wordS, Bool.and_eq_false_iff, decide_eq_false_iff_not] at h
  simp only [wordI, Bool.and_eq_false_iff, decide_eq_false_iff_not]
  rcases h with h | h
  · exact .inl h
  · exact .inr (.inl (by omega))

theorem specIsValidName (s : ByteArray) (w : World) (hs : s.size ≤ maxLen) : Calls Try.prog 171 #[.string s] w fun e w' => e = .returned (.bool (validName s)) ∧ Later w w' := by
  rcases Bool.eq_false_or_eq_true (wordS s) with hq | hq
  · by_cases h8 : s.size ≤ 8
    · have h8' : (s.size : Int) ≤ 8 := by omega
      have HV : Hid (validName s = !isReserved s) := by unfold Hid; simp [validName, word_true hq h8]
      clear h8
      have HC := specl2Shape s w hs
      rw [hq] at HC
      clear hq
      go_enter Try.func171, Try.ntmps171
      go_wp2_with (first | (go_at_call 203; refine HC.mono ?_; rintro e w1 ⟨rfl, hb1⟩) | (go_at_call 204; refine (specIsReserved _ _ hs).mono ?_; rintro e w2 ⟨rfl, hb2⟩))
      go_ret
      exact ⟨ret_bool HV.out.symm, hb1.trans hb2⟩
    · have h8' : decide ((s.size : Int) ≤ 8) = false := by simp; omega
      have h8'' : (8 : Int) < (s.size : Int) := by omega
      have HV : Hid (validName s = false) := by unfold Hid; simp [validName, word_long h8]
      clear h8
      have HC := specl2Shape s w hs
      rw [hq] at HC
      clear hq
      go_enter Try.func171, Try.ntmps171
      go_wp2_with (first | (go_at_call 203; refine HC.mono ?_; rintro e w1 ⟨rfl, hb1⟩))
      go_ret
      exact ⟨ret_bool HV.out.symm, hb1⟩
  · have HV : Hid (validName s = false) := by unfold Hid; simp [validName, word_false hq]
    have HC := specl2Shape s w hs
    rw [hq] at HC
    clear hq
    go_enter Try.func171, Try.ntmps171
    go_wp2_with (first | (go_at_call 203; refine HC.mono ?_; rintro e w1 ⟨rfl, hb1⟩))
    go_ret
    exact ⟨ret_bool HV.out.symm, hb1⟩

theorem implIsValidName (s : ByteArray) (w : World) (hs : s.size ≤ maxLen) : Calls Try.prog 168 #[.string s] w fun e w' => e = .returned (.bool (validName s)) ∧ Later w w' := by
  rcases Bool.eq_false_or_eq_true (wordI s) with hq | hq
  · have HV : Hid (validName s = !isReserved s) := by unfold Hid; simp [validName, hq]
    have HC := implisWord s w hs
    rw [hq] at HC
    clear hq
    go_enter Try.func168, Try.ntmps168
    go_wp2_with (first | (go_at_call 200; refine HC.mono ?_; rintro e w1 ⟨rfl, hb1⟩) | (go_at_call 201; refine (implIsReserved _ _ hs).mono ?_; rintro e w2 ⟨rfl, hb2⟩))
    go_ret
    exact ⟨ret_bool HV.out.symm, hb1.trans hb2⟩
  · have HV : Hid (validName s = false) := by unfold Hid; simp [validName, hq]
    have HC := implisWord s w hs
    rw [hq] at HC
    clear hq
    go_enter Try.func168, Try.ntmps168
    go_wp2_with (first | (go_at_call 200; refine HC.mono ?_; rintro e w1 ⟨rfl, hb1⟩))
    go_ret
    exact ⟨ret_bool HV.out.symm, hb1⟩
end Go.Proofs.Ytghemlokpfipoaa
