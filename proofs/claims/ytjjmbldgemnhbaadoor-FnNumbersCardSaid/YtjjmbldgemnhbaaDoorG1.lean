/-
  FormatInt: the walks.
-/
import Derived.Test.YtjjmbldgemnhbaaDoorMk
import Derived.Test.YtjjmbldgemnhbaaDoorS1
import Derived.Lib.ItoaNum
import Derived.Lib.AppendIntMem
namespace Go.Proofs.YtjjmbldgemnhbaaDoor
open Go.ChangeShapes Go.WideShapes Go.ChangeAt Go.RowKit
set_option linter.unusedVariables false
set_option linter.unusedSimpArgs false
set_option maxRecDepth 100000

/-- A number in decimal. -/
def itoaB (n : Int) : ByteArray := if n = 0 then ⟨#[48]⟩ else if n < 0 then ⟨#[45]⟩ ++ digB n.natAbs else digB n.natAbs
theorem digB_dec {u : Nat} (h : 0 < u) : digB u = ⟨(Lib.decDigits u).toArray⟩ := by
  induction u using Nat.strongRecOn with
  | _ u ih =>
    rw [digB_pos h, Lib.decDigits]
    by_cases h10 : u < 10
    · rw [dif_pos h10]
      have e : u / 10 = 0 := by omega
      have e2 : u % 10 = u := by omega
      rw [e, e2, digB_zero]
      rfl
    · rw [dif_neg h10, ih (u / 10) (by omega) (by omega)]
      apply ByteArray.ext
      simp [ByteArray.data_append]
theorem ret_str {a b : ByteArray} (h : a = b) : Ending.returned (.string a) = .returned (.string b) := by rw [h]
theorem itoaB_eq (n : Int) : itoaB n = ⟨(Lib.itoa n).toArray⟩ := by
  unfold itoaB Lib.itoa
  by_cases h0 : n = 0
  · subst h0
    rw [if_pos rfl, if_neg (by omega)]
    simp [Lib.decDigits]
  · rw [if_neg h0]
    by_cases hn : n < 0
    · rw [if_pos hn, if_pos hn, digB_dec (by omega)]
      apply ByteArray.ext
      simp [ByteArray.data_append]
    · rw [if_neg hn, if_neg hn, digB_dec (by omega)]
      have : n.natAbs = n.toNat := by omega
      rw [this]

theorem size_digB_le : ∀ (m k : Nat), k < 10 ^ m → (digB k).size ≤ m := by
  intro m
  induction m with
  | zero => intro k h; have : k = 0 := by omega
            subst this; rw [digB_zero]; exact Nat.le_refl _
  | succ m ih =>
    intro k h
    rcases Nat.eq_zero_or_pos k with h0 | h0
    · subst h0; rw [digB_zero]; exact Nat.zero_le _
    · rw [digB_pos h0, ByteArray.size_append]
      have h2 : k / 10 < 10 ^ m := by rw [Nat.pow_succ] at h; omega
      have := ih (k / 10) h2
      have e : (ByteArray.mk #[UInt8.ofNat (48 + k % 10)]).size = 1 := rfl
      rw [e]
      omega

set_option maxHeartbeats 1000000 in
theorem specFormatInt (n : Int) (hn : Between64 n) (W : World) : Calls Tryd.prog 13 #[.int .i64 n] W fun r w' => r = .returned (.string (itoaB n)) ∧ Later W w' := by
  rcases Int.lt_trichotomy n 0 with h0 | rfl | h0
  · obtain ⟨k, rfl⟩ : ∃ k : Nat, n = -(k : Int) := ⟨n.natAbs, by omega⟩
    have hk0 : 0 < k := by omega
    have hkm : k ≤ 9223372036854775808 := by unfold Between64 at hn; omega
    have HV : Hid (itoaB (-(k : Int)) = ⟨#[45]⟩ ++ digB k) := by
      unfold Hid itoaB
      rw [if_neg (by omega), if_pos h0]
      have : (-(k : Int)).natAbs = k := by omega
      rw [this]
    have HL : Hid (∀ j s, digB j ++ s = digB k → s.size ≤ 20) := by
      intro j s hs
      have := congrArg ByteArray.size hs
      have h2 := size_digB_le 20 k (by omega)
      rw [ByteArray.size_append] at this
      omega
    have hne : ((-(k : Int)) == 0) = false := by simp; omega
    have hnb : decide (-(k : Int) < 0) = true := by simp; omega
    clear hn
    go_enter Tryd.func13, Tryd.ntmps13
    go_wp2_with fail
    go_loopw [0, 4] (fun n o wr => ∃ (j : Nat) (s : ByteArray), n = .int .i64 (-(j : Int)) ∧ o = .string s ∧ digB j ++ s = digB k ∧ j ≤ k ∧ Later W wr) (fun n _ _ => (intOf n).natAbs)
    case atStart => exact ⟨k, ByteArray.empty, rfl, rfl, by simp, Nat.le_refl _, Later.rfl' _⟩
    case round =>
      obtain ⟨j, s, rfl, rfl, hs, hj, hw⟩ := hrel
      have hss := HL.out j s hs
      by_cases hj0 : 0 < j
      · have hjn : (-(j : Int) != 0) = true := by simp; omega
        have ht1 : (-(j : Int)).tmod 10 = -((j % 10 : Nat) : Int) := by rw [Int.neg_tmod]; rfl
        have ht2 : (-(j : Int)).tdiv 10 = -((j / 10 : Nat) : Int) := by rw [Int.neg_tdiv]; rfl
        rw [digB_pos hj0] at hs
        have hcv := conv_byte wr (48 + j % 10) (by omega)
        obtain ⟨D, hD⟩ : ∃ D, D = ByteArray.mk #[UInt8.ofNat (48 + j % 10)] := ⟨_, rfl⟩
        have hDs : D.size = 1 := by rw [hD]; rfl
        rw [← hD] at hcv hs
        clear hD
        have HS := Lib.hid hs
        have HW := Lib.hid hw
        obtain ⟨q, hq⟩ : ∃ q, q = j % 10 := ⟨_, rfl⟩
        have hq10 : q < 10 := by omega
        rw [← hq] at ht1 hcv
        push_cast at hcv
        clear hs hw hq
        by_cases hq0 : q = 0
        · subst hq0
          rw [show (48 : Int) + ((0 : Nat) : Int) = 48 from rfl] at hcv
          go_wp2_with fail
          go_roundw
          case rel => exact ⟨j / 10, D ++ s, by first | rfl | go_num, rfl, by rw [← ByteArray.append_assoc]; exact HS.out, by omega, HW.out.trans ((Later.rfl' _).alloc _)⟩
          case measure => simp [intOf]; omega
        · have hqn : -(q : Int) < 0 := by omega
          go_wp2_with fail
          go_roundw
          case rel => exact ⟨j / 10, D ++ s, by first | rfl | go_num, rfl, by rw [← ByteArray.append_assoc]; exact HS.out, by omega, HW.out.trans ((Later.rfl' _).alloc _)⟩
          case measure => simp [intOf]; omega
      · have : j = 0 := by omega
        subst this
        rw [digB_zero] at hs
        have hs2 : s = digB k := by simpa using hs
        clear hs
        subst hs2
        have hz : ((-((0 : Nat) : Int)) != 0) = false := rfl
        go_wp2_with fail
        go_ret
        exact ⟨ret_str HV.out.symm, hw⟩
  · go_enter Tryd.func13, Tryd.ntmps13
    go_wp2
    go_ret
    exact ⟨rfl, Later.rfl' _⟩
  · obtain ⟨k, rfl⟩ : ∃ k : Nat, n = (k : Int) := ⟨n.natAbs, by omega⟩
    have hk0 : 0 < k := by omega
    have hkm : k ≤ 9223372036854775807 := by unfold Between64 at hn; omega
    have HV : Hid (itoaB (k : Int) = digB k) := by
      unfold Hid itoaB
      rw [if_neg (by omega), if_neg (by omega)]
      have : ((k : Int)).natAbs = k := by omega
      rw [this]
    have HL : Hid (∀ j s, digB j ++ s = digB k → s.size ≤ 20) := by
      intro j s hs
      have := congrArg ByteArray.size hs
      have h2 := size_digB_le 20 k (by omega)
      rw [ByteArray.size_append] at this
      omega
    have hne : ((k : Int) == 0) = false := by simp; omega
    have hnb : decide ((k : Int) < 0) = false := by simp
    clear hn
    go_enter Tryd.func13, Tryd.ntmps13
    go_wp2_with fail
    go_loopw [0, 4] (fun n o wr => ∃ (j : Nat) (s : ByteArray), n = .int .i64 (j : Int) ∧ o = .string s ∧ digB j ++ s = digB k ∧ j ≤ k ∧ Later W wr) (fun n _ _ => (intOf n).natAbs)
    case atStart => exact ⟨k, ByteArray.empty, rfl, rfl, by simp, Nat.le_refl _, Later.rfl' _⟩
    case round =>
      obtain ⟨j, s, rfl, rfl, hs, hj, hw⟩ := hrel
      have hss := HL.out j s hs
      by_cases hj0 : 0 < j
      · have hjn : ((j : Int) != 0) = true := by simp; omega
        have hjp : (0 : Int) < (j : Int) := by omega
        rw [digB_pos hj0] at hs
        have hcv := conv_byte wr (48 + j % 10) (by omega)
        obtain ⟨D, hD⟩ : ∃ D, D = ByteArray.mk #[UInt8.ofNat (48 + j % 10)] := ⟨_, rfl⟩
        have hDs : D.size = 1 := by rw [hD]; rfl
        rw [← hD] at hcv hs
        clear hD
        have HS := Lib.hid hs
        have HW := Lib.hid hw
        obtain ⟨q, hq⟩ : ∃ q, q = j % 10 := ⟨_, rfl⟩
        have hq10 : q < 10 := by omega
        have ht1 : (j : Int) % 10 = (q : Int) := by omega
        have ht3 : (j : Int).tmod 10 = (q : Int) := by rw [hq]; rfl
        have hqd : decide ((q : Int) < 0) = false := by simp
        rw [← hq] at hcv
        push_cast at hcv
        clear hs hw hq
        go_wp2_with fail
        go_roundw
        case rel => exact ⟨j / 10, D ++ s, by go_num, rfl, by rw [← ByteArray.append_assoc]; exact HS.out, by omega, HW.out.trans ((Later.rfl' _).alloc _)⟩
        case measure => simp [intOf]; omega
      · have : j = 0 := by omega
        subst this
        rw [digB_zero] at hs
        have hs2 : s = digB k := by simpa using hs
        clear hs
        subst hs2
        go_wp2_with fail
        go_ret
        exact ⟨ret_str HV.out.symm, hw⟩

def TabAt (w : World) : Prop := Lib.TabIs Tryd.prog w "internal/strconv.uint64pow10" .u64 Lib.pow10Tab
theorem TabAt.later {w w' : World} (h : TabAt w) (hb : Later w w') : TabAt w' := Lib.tabBelow_of_tabIs h w' hb
theorem implFormatInt (n : Int) (hn : Between64 n) (W : World) (h : TabAt W) : Calls Tryd.prog 12 #[.int .i64 n] W fun r w' => r = .returned (.string (itoaB n)) ∧ Later W w' := by
  have C := fun w (hw : TabAt w) => Tryd.strconv_Itoa n (by unfold Between64 at hn; omega) (by unfold Between64 at hn; omega) w hw
  rw [← itoaB_eq] at C
  have HC := Lib.hid C
  clear C
  go_enter Tryd.func12, Tryd.ntmps12
  go_wp2_with fail
  refine (HC.out _ h).mono ?_; rintro e w1 ⟨rfl, k, os, rfl⟩
  have HL : Hid (Later W (Go.Sort.grow (W.drewN k) os)) := Lib.below_grow _ W (Nat.le_refl _) k os
  go_wp2_with fail
  go_ret
  exact ⟨rfl, HL.out⟩
end Go.Proofs.YtjjmbldgemnhbaaDoor
