/-
  l1Read, ParseInt, ParseNumber: the walks; the laws FnExactParseInt, FnExactParseNumber: their walks.
-/
import Derived.Test.YtjjmbldgemnhbaaDoorPR
namespace Go.Proofs.YtjjmbldgemnhbaaDoor
open Go.ChangeShapes Go.WideShapes Go.ChangeAt Go.RowKit
set_option linter.unusedVariables false
set_option linter.unusedSimpArgs false
set_option maxRecDepth 100000

theorem head_get {s : ByteArray} (h : 0 < s.size) : s.data.toList.head? = some (s[0]'h) := by
  rw [List.head?_eq_getElem?, List.getElem?_eq_getElem (by simpa using h)]
  rfl
theorem below_iff {s : ByteArray} (h : 0 < s.size) : belowB s = (((s[0]'h).toNat : Int) == 45) := by
  unfold belowB
  rw [head_get h, Bool.eq_iff_iff]
  simp only [beq_iff_eq, Option.some.injEq]
  constructor
  · intro e; rw [e]; rfl
  · intro e; exact UInt8.toNat_inj.1 (by have : (45 : UInt8).toNat = 45 := rfl; omega)
theorem extract_tail (s : ByteArray) : (s.extract 1 s.size).data.toList = s.data.toList.tail := by
  rw [ByteArray.data_extract, Array.toList_extract, List.extract_eq_take_drop, List.drop_one, List.take_of_length_le (by simp)]
/-- What the reference has of a text: its digits. -/
def restS (s : ByteArray) : ByteArray := if belowB s then s.extract 1 s.size else s
theorem restS_data (s : ByteArray) : (restS s).data.toList = restB s := by
  unfold restS restB
  split
  · exact extract_tail s
  · rfl
theorem restS_size (s : ByteArray) : (restS s).size = (restB s).length := by rw [← restS_data]; simp
theorem byte_at {s : ByteArray} {i : Nat} (hi : i < s.size) : s.data.toList[i]? = some (s[i]'hi) := by
  rw [List.getElem?_eq_getElem (by simpa using hi)]
  rfl
theorem digit_not {b : UInt8} (h : ¬ (48 ≤ b.toNat ∧ b.toNat ≤ 57)) : Lib.digitVal b = none := by unfold Lib.digitVal; rw [if_neg h]
theorem digit_yes {b : UInt8} (h1 : 48 ≤ b.toNat) (h2 : b.toNat ≤ 57) : Lib.digitVal b = some (b.toNat - 48) := by unfold Lib.digitVal; rw [if_pos ⟨h1, h2⟩]
theorem dec_bad {l : List UInt8} {k : Nat} {b : UInt8} (hk : l[k]? = some b) (hb : ¬ (48 ≤ b.toNat ∧ b.toNat ≤ 57)) (acc : Nat) : Lib.decFrom acc l = none := by
  cases h : Lib.decFrom acc l with
  | none => rfl
  | some n =>
    obtain ⟨d, hd⟩ := Lib.digit_of_decFrom l acc n h k b hk
    rw [digit_not hb] at hd
    cases hd


set_option maxHeartbeats 2000000 in
theorem specRead (s : ByteArray) (most : Nat) (hm : most ≤ 12) (hs : s.size ≤ 1048576) (W : World) : Calls Tryd.prog 15 #[.string s, .int .i64 (most : Int)] W fun r w' => r = optR (readB most s) ∧ Later W w' := by
  rcases Nat.eq_zero_or_pos s.size with h0 | h0
  · have HV : Hid (readB most s = none) := by
      have : s = ByteArray.empty := ByteArray.size_eq_zero_iff.1 h0
      subst this
      rfl
    go_enter Tryd.func15, Tryd.ntmps15
    go_wp2_with fail
    go_ret2
    exact ⟨by rw [HV.out]; rfl, Later.rfl' _⟩
  have hbi := below_iff h0
  have h0i : (0 : Int) < (s.size : Int) := by omega
  cases hbl : belowB s with
  | true =>
    rw [hbl] at hbi
    obtain ⟨T, hT⟩ : ∃ T, T = restS s := ⟨_, rfl⟩
    have HT : Hid (T = restS s) := hT
    have HBL : Hid (belowB s = true) := hbl
    unfold restS at hT
    rw [hbl] at hT
    simp only [Bool.false_eq_true, if_true, if_false] at hT
    have hb0 := hbi.symm
    have hTs : T.data.toList.length = T.size := by simp
    have hext := hT.symm
    have hone : (1 : Int) ≤ (s.size : Int) := by omega
    have hone2 : 1 ≤ s.size := by omega
    clear hT hbl hbi
    by_cases hl1 : T.size < 1
    · have hl1i : (T.size : Int) < 1 := by omega
      have HV : Hid (readB most s = none) := by unfold Hid readB; rw [if_pos (by rw [← restS_size, ← HT.out]; omega)]
      go_enter Tryd.func15, Tryd.ntmps15
      go_wp2_with fail
      go_ret2
      exact ⟨by rw [HV.out]; rfl, Later.rfl' _⟩
    have hl1i : (1 : Int) ≤ (T.size : Int) := by omega
    by_cases hl2 : most < T.size
    · have hl2i : (most : Int) < (T.size : Int) := by omega
      have HV : Hid (readB most s = none) := by unfold Hid readB; rw [if_pos (by rw [← restS_size, ← HT.out]; omega)]
      go_enter Tryd.func15, Tryd.ntmps15
      go_wp2_with fail
      go_ret2
      exact ⟨by rw [HV.out]; rfl, Later.rfl' _⟩
    have hl2i : (T.size : Int) ≤ (most : Int) := by omega
    go_enter Tryd.func15, Tryd.ntmps15
    go_wp2_with fail
    go_loopw [8, 9] (fun n i wr => ∃ k acc : Nat, k ≤ T.size ∧ n = .int .i64 (acc : Int) ∧ i = .int .i64 (k : Int) ∧ Lib.decFrom 0 (T.data.toList.take k) = some acc ∧ Later W wr) (fun _ i _ => T.size - (intOf i).toNat)
    case atStart => exact ⟨0, 0, Nat.zero_le _, rfl, rfl, rfl, Later.rfl' _⟩
    case round =>
      obtain ⟨k, acc, hk, rfl, rfl, hdec, hw⟩ := hrel
      have hacc := dec_lt _ _ _ hdec
      rw [List.length_take] at hacc
      have HD := Lib.hid hdec
      have HW := Lib.hid hw
      clear hdec hw
      by_cases hlt : k < T.size
      · have hget := byte_at hlt
        have hki : (k : Int) < (T.size : Int) := by omega
        have h11 : 10 ^ min k T.data.toList.length ≤ 10 ^ 11 := Nat.pow_le_pow_right (by omega) (by omega)
        have hacc2 : acc < 100000000000 := by omega
        by_cases hd : 48 ≤ (T[k]'hlt).toNat ∧ (T[k]'hlt).toNat ≤ 57
        · have HS := Lib.hid (Lib.decFrom_take _ k 0 acc _ _ HD.out hget (digit_yes hd.1 hd.2))
          obtain ⟨b, hb⟩ : ∃ b, b = (T[k]'hlt).toNat := ⟨_, rfl⟩
          have h1 : (48 : Int) ≤ (((T[k]'hlt).toNat : Nat) : Int) := by omega
          have h2 : (((T[k]'hlt).toNat : Nat) : Int) ≤ 57 := by omega
          rw [← hb] at HS
          have HB := Lib.hid hb
          clear hget h11 hacc hd hb
          go_wp2_with fail
          go_roundw
          case rel => exact ⟨k + 1, acc * 10 + (b - 48), by omega, by rw [HB.out]; go_num, by go_num, HS.out, HW.out⟩
          case measure => simp [intOf]; omega
        · have HV : Hid (readB most s = none) := by
            unfold Hid readB
            rw [if_neg (by rw [← restS_size, ← HT.out]; omega), ← restS_data, ← HT.out, dec_bad hget hd]
          have h4 : (T[k]'hlt).toNat < 48 ∨ (48 ≤ (T[k]'hlt).toNat ∧ 57 < (T[k]'hlt).toNat) := by omega
          clear hget h11 hacc hd
          rcases h4 with h4 | ⟨h4, h5⟩
          · have h1 : (((T[k]'hlt).toNat : Nat) : Int) < 48 := by omega
            clear h4
            go_wp2_with fail
            go_ret2
            exact ⟨by rw [HV.out]; rfl, HW.out⟩
          · have h1 : (48 : Int) ≤ (((T[k]'hlt).toNat : Nat) : Int) := by omega
            have h2 : (57 : Int) < (((T[k]'hlt).toNat : Nat) : Int) := by omega
            clear h4 h5
            go_wp2_with fail
            go_ret2
            exact ⟨by rw [HV.out]; rfl, HW.out⟩
      · have h12 : 10 ^ min k T.data.toList.length ≤ 10 ^ 12 := Nat.pow_le_pow_right (by omega) (by omega)
        have hacc2 : acc < 1000000000000 := by omega
        have hall : T.data.toList.take k = T.data.toList := List.take_of_length_le (by simp; omega)
        have HV : Hid (readB most s = if itoaB (-(acc : Int)) = s then some (-(acc : Int)) else none) := by
          have h := HD.out
          rw [hall, HT.out, restS_data] at h
          unfold Hid readB signB
          rw [if_neg (by rw [← restS_size, ← HT.out]; omega), h, HBL.out]
          simp
        have CF := fun w => specFormatInt (-(acc : Int)) (by unfold Between64; omega) w
        have hbe := beq_toList (itoaB (-(acc : Int))) s
        obtain ⟨B, hB⟩ : ∃ B, B = itoaB (-(acc : Int)) := ⟨_, rfl⟩
        rw [← hB] at HV hbe
        simp only [← hB] at CF
        have HCF := Lib.hid CF
        clear CF hB hall h12 hacc
        by_cases hBs : B = s
        · subst hBs
          have HV2 : Hid (readB most B = some (-(acc : Int))) := by unfold Hid; rw [HV.out, if_pos rfl]
          clear hbe
          go_wp2_with fail
          refine (HCF.out _).mono ?_; rintro e w1 ⟨rfl, hb⟩
          have HL := Lib.hid (HW.out.trans hb)
          clear hb
          go_wp2_with fail
          go_ret2
          exact ⟨by rw [HV2.out]; rfl, HL.out⟩
        · have HV2 : Hid (readB most s = none) := by unfold Hid; rw [HV.out, if_neg hBs]
          have hbf : (B.toList == s.toList) = false := by rw [hbe]; simpa using hBs
          clear hBs hbe
          go_wp2_with fail
          refine (HCF.out _).mono ?_; rintro e w1 ⟨rfl, hb⟩
          have HL := Lib.hid (HW.out.trans hb)
          clear hb
          go_wp2_with fail
          go_ret2
          exact ⟨by rw [HV2.out]; rfl, HL.out⟩
  | false =>
    rw [hbl] at hbi
    obtain ⟨T, hT⟩ : ∃ T, T = restS s := ⟨_, rfl⟩
    have HT : Hid (T = restS s) := hT
    have HBL : Hid (belowB s = false) := hbl
    unfold restS at hT
    rw [hbl] at hT
    simp only [Bool.false_eq_true, if_true, if_false] at hT
    have hb0 := hbi.symm
    have hTs : T.data.toList.length = T.size := by simp
    have hT2 := hT.symm
    clear hT
    subst hT2
    clear hbl hbi
    by_cases hl1 : s.size < 1
    · have hl1i : (s.size : Int) < 1 := by omega
      have HV : Hid (readB most s = none) := by unfold Hid readB; rw [if_pos (by rw [← restS_size, ← HT.out]; omega)]
      go_enter Tryd.func15, Tryd.ntmps15
      go_wp2_with fail
      go_ret2
      exact ⟨by rw [HV.out]; rfl, Later.rfl' _⟩
    have hl1i : (1 : Int) ≤ (s.size : Int) := by omega
    by_cases hl2 : most < s.size
    · have hl2i : (most : Int) < (s.size : Int) := by omega
      have HV : Hid (readB most s = none) := by unfold Hid readB; rw [if_pos (by rw [← restS_size, ← HT.out]; omega)]
      go_enter Tryd.func15, Tryd.ntmps15
      go_wp2_with fail
      go_ret2
      exact ⟨by rw [HV.out]; rfl, Later.rfl' _⟩
    have hl2i : (s.size : Int) ≤ (most : Int) := by omega
    go_enter Tryd.func15, Tryd.ntmps15
    go_wp2_with fail
    go_loopw [8, 9] (fun n i wr => ∃ k acc : Nat, k ≤ s.size ∧ n = .int .i64 (acc : Int) ∧ i = .int .i64 (k : Int) ∧ Lib.decFrom 0 (s.data.toList.take k) = some acc ∧ Later W wr) (fun _ i _ => s.size - (intOf i).toNat)
    case atStart => exact ⟨0, 0, Nat.zero_le _, rfl, rfl, rfl, Later.rfl' _⟩
    case round =>
      obtain ⟨k, acc, hk, rfl, rfl, hdec, hw⟩ := hrel
      have hacc := dec_lt _ _ _ hdec
      rw [List.length_take] at hacc
      have HD := Lib.hid hdec
      have HW := Lib.hid hw
      clear hdec hw
      by_cases hlt : k < s.size
      · have hget := byte_at hlt
        have hki : (k : Int) < (s.size : Int) := by omega
        have h11 : 10 ^ min k s.data.toList.length ≤ 10 ^ 11 := Nat.pow_le_pow_right (by omega) (by omega)
        have hacc2 : acc < 100000000000 := by omega
        by_cases hd : 48 ≤ (s[k]'hlt).toNat ∧ (s[k]'hlt).toNat ≤ 57
        · have HS := Lib.hid (Lib.decFrom_take _ k 0 acc _ _ HD.out hget (digit_yes hd.1 hd.2))
          obtain ⟨b, hb⟩ : ∃ b, b = (s[k]'hlt).toNat := ⟨_, rfl⟩
          have h1 : (48 : Int) ≤ (((s[k]'hlt).toNat : Nat) : Int) := by omega
          have h2 : (((s[k]'hlt).toNat : Nat) : Int) ≤ 57 := by omega
          rw [← hb] at HS
          have HB := Lib.hid hb
          clear hget h11 hacc hd hb
          go_wp2_with fail
          go_roundw
          case rel => exact ⟨k + 1, acc * 10 + (b - 48), by omega, by rw [HB.out]; go_num, by go_num, HS.out, HW.out⟩
          case measure => simp [intOf]; omega
        · have HV : Hid (readB most s = none) := by
            unfold Hid readB
            rw [if_neg (by rw [← restS_size, ← HT.out]; omega), ← restS_data, ← HT.out, dec_bad hget hd]
          have h4 : (s[k]'hlt).toNat < 48 ∨ (48 ≤ (s[k]'hlt).toNat ∧ 57 < (s[k]'hlt).toNat) := by omega
          clear hget h11 hacc hd
          rcases h4 with h4 | ⟨h4, h5⟩
          · have h1 : (((s[k]'hlt).toNat : Nat) : Int) < 48 := by omega
            clear h4
            go_wp2_with fail
            go_ret2
            exact ⟨by rw [HV.out]; rfl, HW.out⟩
          · have h1 : (48 : Int) ≤ (((s[k]'hlt).toNat : Nat) : Int) := by omega
            have h2 : (57 : Int) < (((s[k]'hlt).toNat : Nat) : Int) := by omega
            clear h4 h5
            go_wp2_with fail
            go_ret2
            exact ⟨by rw [HV.out]; rfl, HW.out⟩
      · have h12 : 10 ^ min k s.data.toList.length ≤ 10 ^ 12 := Nat.pow_le_pow_right (by omega) (by omega)
        have hacc2 : acc < 1000000000000 := by omega
        have hall : s.data.toList.take k = s.data.toList := List.take_of_length_le (by simp; omega)
        have HV : Hid (readB most s = if itoaB ((acc : Int)) = s then some ((acc : Int)) else none) := by
          have h := HD.out
          rw [hall, HT.out, restS_data] at h
          unfold Hid readB signB
          rw [if_neg (by rw [← restS_size, ← HT.out]; omega), h, HBL.out]
          simp
        have CF := fun w => specFormatInt ((acc : Int)) (by unfold Between64; omega) w
        have hbe := beq_toList (itoaB ((acc : Int))) s
        obtain ⟨B, hB⟩ : ∃ B, B = itoaB ((acc : Int)) := ⟨_, rfl⟩
        rw [← hB] at HV hbe
        simp only [← hB] at CF
        have HCF := Lib.hid CF
        clear CF hB hall h12 hacc
        by_cases hBs : B = s
        · subst hBs
          have HV2 : Hid (readB most B = some ((acc : Int))) := by unfold Hid; rw [HV.out, if_pos rfl]
          clear hbe
          go_wp2_with fail
          refine (HCF.out _).mono ?_; rintro e w1 ⟨rfl, hb⟩
          have HL := Lib.hid (HW.out.trans hb)
          clear hb
          go_wp2_with fail
          go_ret2
          exact ⟨by rw [HV2.out]; rfl, HL.out⟩
        · have HV2 : Hid (readB most s = none) := by unfold Hid; rw [HV.out, if_neg hBs]
          have hbf : (B.toList == s.toList) = false := by rw [hbe]; simpa using hBs
          clear hBs hbe
          go_wp2_with fail
          refine (HCF.out _).mono ?_; rintro e w1 ⟨rfl, hb⟩
          have HL := Lib.hid (HW.out.trans hb)
          clear hb
          go_wp2_with fail
          go_ret2
          exact ⟨by rw [HV2.out]; rfl, HL.out⟩

end Go.Proofs.YtjjmbldgemnhbaaDoor
