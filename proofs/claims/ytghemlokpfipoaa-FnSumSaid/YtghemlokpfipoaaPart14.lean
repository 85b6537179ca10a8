/-
  Names: l2Shape, isWord, IsReserved of the reference, IsValidName: the walks.
-/
import Derived.Test.YtghemlokpfipoaaPart13
import Derived.Test.YtghemlokpfipoaaPart6
namespace Go.Proofs.Ytghemlokpfipoaa
open Go.ChangeShapes Go.WideShapes Go.ChangeAt Go.RowKit
set_option linter.unusedVariables false
set_option linter.unusedSimpArgs false

def RetStrs (w' : World) (xs : List ByteArray) (e : Ending) : Prop := ∃ v, e = .returned v ∧ Strs w' v xs

theorem specl2Reserved (w : World) : Calls Try.prog 216 #[] w fun e w' => RetStrs w' reservedList e ∧ Later w w' := by
  go_enter Try.func216, Try.ntmps216
  go_wp2
  go_ret
  refine ⟨⟨_, rfl, Strs.of_own (e := 9) (base := 0) (by decide) ?_⟩, (Later.rfl' _).alloc _⟩
  exact World.ownsRow_lit w _ 24 (Nat.zero_le _) (by simp [maxLen]) rfl

theorem specIsReserved (s : ByteArray) (w : World) (hs : s.size ≤ maxLen) : Calls Try.prog 204 #[.string s] w fun e w' => e = .returned (.bool (isReserved s)) ∧ Later w w' := by
  go_enter Try.func204, Try.ntmps204
  go_wp2_with (first | (go_at_call 216; refine (specl2Reserved _).mono ?_; rintro e w1 ⟨⟨v, rfl, hs⟩, hb1⟩) | (go_at_call 205; refine (specl1Has _ _ _ _ hs).mono ?_; rintro e w2 ⟨rfl, hb2⟩))
  go_ret
  exact ⟨ret_bool (hasB_reserved s), hb1.trans hb2.later⟩

def okAt (k c : Nat) : Bool := (decide (97 ≤ c) && decide (c ≤ 122)) || (decide (0 < k) && decide (48 ≤ c) && decide (c ≤ 57))
def shapeB (s : ByteArray) : Bool := decide (∀ k, (h : k < s.size) → okAt k (s[k]'h).toNat = true)
theorem shape_hit {s : ByteArray} {k : Nat} (h : k < s.size) (hq : okAt k (s[k]'h).toNat = false) : shapeB s = false := by
  simp only [shapeB, decide_eq_false_iff_not]
  intro hall
  rw [hall k h] at hq
  cases hq
theorem shape_all {s : ByteArray} (h : ∀ k, (h : k < s.size) → okAt k (s[k]'h).toNat = true) : shapeB s = true := by
  simp only [shapeB, decide_eq_true_eq]
  exact h
theorem ok_ways {k c : Nat} (h : okAt k c = true) : (97 ≤ c ∧ c ≤ 122) ∨ (0 < k ∧ 48 ≤ c ∧ c ≤ 57) := by
  simp only [okAt, Bool.or_eq_true, Bool.and_eq_true, decide_eq_true_eq] at h
  omega
theorem bad_ways {k c : Nat} (h : okAt k c = false) : (k = 0 ∧ (c < 97 ∨ 122 < c)) ∨ (0 < k ∧ (c < 48 ∨ (57 < c ∧ c < 97) ∨ 122 < c)) := by
  simp only [okAt, Bool.or_eq_false_iff, Bool.and_eq_false_iff, decide_eq_false_iff_not] at h
  omega
def wordS (s : ByteArray) : Bool := shapeB s && decide (0 < s.size)
def wordI (s : ByteArray) : Bool := shapeB s && (decide (1 ≤ s.size) && decide (s.size ≤ 8))
def validName (s : ByteArray) : Bool := wordI s && !isReserved s


set_option maxHeartbeats 400000 in
theorem specl2Shape (s : ByteArray) (w : World) (hs : s.size ≤ maxLen) : Calls Try.prog 203 #[.string s] w fun e w' => e = .returned (.bool (wordS s)) ∧ Later w w' := by
  unfold maxLen at hs
  go_enter Try.func203, Try.ntmps203
  go_wp2
  go_loop [3] (fun i => ∃ k : Nat, k ≤ s.size ∧ i = .int .i64 k ∧ ∀ j, (hj : j < s.size) → j < k → okAt j (s[j]'hj).toNat = true) (fun i => s.size - (intOf i).toNat)
  case atStart => exact ⟨0, Nat.zero_le _, rfl, fun j _ h => absurd h (by omega)⟩
  case round =>
    obtain ⟨k, hk, rfl, hall⟩ := hrel
    have HA : Hid (∀ j, (hj : j < s.size) → j < k → okAt j (s[j]'hj).toNat = true) := hall
    clear hall
    by_cases hlt : k < s.size
    · cases hb : okAt k (s[k]'hlt).toNat with
      | true =>
        have HB : Hid (okAt k (s[k]'hlt).toNat = true) := hb
        have hways := ok_ways hb
        clear hb
        rcases hways with ⟨h1, h2⟩ | ⟨h0, h1, h2⟩
        · have g1 : (97 : Int) ≤ ((s[k]'hlt).toNat : Int) := by omega
          have g2 : ((s[k]'hlt).toNat : Int) ≤ 122 := by omega
          clear h1 h2
          go_wp2
          go_round
          case rel => exact ⟨k + 1, by omega, by go_num, fun j hj hjk => if e : j = k then by subst e; exact HB.out else HA.out j hj (by omega)⟩
          case measure => simp [intOf]; omega
        · have g1 : (48 : Int) ≤ ((s[k]'hlt).toNat : Int) := by omega
          have g2 : ((s[k]'hlt).toNat : Int) ≤ 57 := by omega
          have g3 : ¬ (97 : Int) ≤ ((s[k]'hlt).toNat : Int) := by omega
          have g4 : decide ((97 : Int) ≤ ((s[k]'hlt).toNat : Int)) = false := by simpa using g3
          have g0 : ((k : Int) == 0) = false := by simp; omega
          clear h1 h2 g3
          go_wp2
          go_round
          case rel => exact ⟨k + 1, by omega, by go_num, fun j hj hjk => if e : j = k then by subst e; exact HB.out else HA.out j hj (by omega)⟩
          case measure => simp [intOf]; omega
      | false =>
        have HV : Hid (wordS s = false) := by unfold Hid; simp [wordS, shape_hit hlt hb]
        have hways := bad_ways hb
        clear hb
        rcases hways with ⟨rfl, h1 | h1⟩ | ⟨h0, h1 | ⟨h1, h2⟩ | h1⟩
        · have g1 : ((s[0]'hlt).toNat : Int) < 97 := by omega
          have g4 : decide ((97 : Int) ≤ ((s[0]'hlt).toNat : Int)) = false := by simp; omega
          clear h1
          go_wp2
          all_goals (go_ret; exact ⟨ret_bool HV.out.symm, Later.rfl' _⟩)
        · have g1 : (122 : Int) < ((s[0]'hlt).toNat : Int) := by omega
          have g5 : (97 : Int) ≤ ((s[0]'hlt).toNat : Int) := by omega
          have g4 : decide (((s[0]'hlt).toNat : Int) ≤ 122) = false := by simp; omega
          clear h1
          go_wp2
          all_goals (go_ret; exact ⟨ret_bool HV.out.symm, Later.rfl' _⟩)
        · have g1 : ((s[k]'hlt).toNat : Int) < 48 := by omega
          have g4 : decide ((97 : Int) ≤ ((s[k]'hlt).toNat : Int)) = false := by simp; omega
          have g5 : decide ((48 : Int) ≤ ((s[k]'hlt).toNat : Int)) = false := by simp; omega
          have g0 : ((k : Int) == 0) = false := by simp; omega
          clear h1
          go_wp2
          all_goals (go_ret; exact ⟨ret_bool HV.out.symm, Later.rfl' _⟩)
        · have g1 : (57 : Int) < ((s[k]'hlt).toNat : Int) := by omega
          have g2 : ((s[k]'hlt).toNat : Int) < 97 := by omega
          have g3 : (48 : Int) ≤ ((s[k]'hlt).toNat : Int) := by omega
          have g4 : decide ((97 : Int) ≤ ((s[k]'hlt).toNat : Int)) = false := by simp; omega
          have g5 : decide (((s[k]'hlt).toNat : Int) ≤ 57) = false := by simp; omega
          have g0 : ((k : Int) == 0) = false := by simp; omega
          clear h1 h2
          go_wp2
          all_goals (go_ret; exact ⟨ret_bool HV.out.symm, Later.rfl' _⟩)
        · have g1 : (122 : Int) < ((s[k]'hlt).toNat : Int) := by omega
          have g3 : (97 : Int) ≤ ((s[k]'hlt).toNat : Int) := by omega
          have g4 : decide (((s[k]'hlt).toNat : Int) ≤ 122) = false := by simp; omega
          have g6 : (48 : Int) ≤ ((s[k]'hlt).toNat : Int) := by omega
          have g5 : decide (((s[k]'hlt).toNat : Int) ≤ 57) = false := by simp; omega
          have g0 : ((k : Int) == 0) = false := by simp; omega
          clear h1
          go_wp2
          all_goals (go_ret; exact ⟨ret_bool HV.out.symm, Later.rfl' _⟩)
    · have HV : Hid (wordS s = decide (0 < s.size)) := by
        unfold Hid wordS
        rw [shape_all fun j hj => HA.out j hj (by omega)]
        rfl
      go_wp2
      all_goals (go_ret; exact ⟨ret_bool (by refine Eq.trans ?_ HV.out.symm; first | rfl | (rw [decide_eq_true (show 1 ≤ s.size by omega), Bool.true_and]; exact decide_eq_decide.2 (by omega)) | (rw [decide_eq_false (show ¬ 1 ≤ s.size by omega)]; rfl)), Later.rfl' _⟩)

set_option maxHeartbeats 400000 in
theorem implisWord (s : ByteArray) (w : World) (hs : s.size ≤ maxLen) : Calls Try.prog 200 #[.string s] w fun e w' => e = .returned (.bool (wordI s)) ∧ Later w w' := by
  unfold maxLen at hs
  go_enter Try.func200, Try.ntmps200
  go_wp2
  go_loop [3] (fun i => ∃ k : Nat, k ≤ s.size ∧ i = .int .i64 k ∧ ∀ j, (hj : j < s.size) → j < k → okAt j (s[j]'hj).toNat = true) (fun i => s.size - (intOf i).toNat)
  case atStart => exact ⟨0, Nat.zero_le _, rfl, fun j _ h => absurd h (by omega)⟩
  case round =>
    obtain ⟨k, hk, rfl, hall⟩ := hrel
    have HA : Hid (∀ j, (hj : j < s.size) → j < k → okAt j (s[j]'hj).toNat = true) := hall
    clear hall
    by_cases hlt : k < s.size
    · cases hb : okAt k (s[k]'hlt).toNat with
      | true =>
        have HB : Hid (okAt k (s[k]'hlt).toNat = true) := hb
        have hways := ok_ways hb
        clear hb
        rcases hways with ⟨h1, h2⟩ | ⟨h0, h1, h2⟩
        · have g1 : (97 : Int) ≤ ((s[k]'hlt).toNat : Int) := by omega
          have g2 : ((s[k]'hlt).toNat : Int) ≤ 122 := by omega
          clear h1 h2
          go_wp2
          go_round
          case rel => exact ⟨k + 1, by omega, by go_num, fun j hj hjk => if e : j = k then by subst e; exact HB.out else HA.out j hj (by omega)⟩
          case measure => simp [intOf]; omega
        · have g1 : (48 : Int) ≤ ((s[k]'hlt).toNat : Int) := by omega
          have g2 : ((s[k]'hlt).toNat : Int) ≤ 57 := by omega
          have g3 : ¬ (97 : Int) ≤ ((s[k]'hlt).toNat : Int) := by omega
          have g4 : decide ((97 : Int) ≤ ((s[k]'hlt).toNat : Int)) = false := by simpa using g3
          have g0 : ((k : Int) == 0) = false := by simp; omega
          clear h1 h2 g3
          go_wp2
          go_round
          case rel => exact ⟨k + 1, by omega, by go_num, fun j hj hjk => if e : j = k then by subst e; exact HB.out else HA.out j hj (by omega)⟩
          case measure => simp [intOf]; omega
      | false =>
        have HV : Hid (wordI s = false) := by unfold Hid; simp [wordI, shape_hit hlt hb]
        have hways := bad_ways hb
        clear hb
        rcases hways with ⟨rfl, h1 | h1⟩ | ⟨h0, h1 | ⟨h1, h2⟩ | h1⟩
        · have g1 : ((s[0]'hlt).toNat : Int) < 97 := by omega
          have g4 : decide ((97 : Int) ≤ ((s[0]'hlt).toNat : Int)) = false := by simp; omega
          clear h1
          go_wp2
          all_goals (go_ret; exact ⟨ret_bool HV.out.symm, Later.rfl' _⟩)
        · have g1 : (122 : Int) < ((s[0]'hlt).toNat : Int) := by omega
          have g5 : (97 : Int) ≤ ((s[0]'hlt).toNat : Int) := by omega
          have g4 : decide (((s[0]'hlt).toNat : Int) ≤ 122) = false := by simp; omega
          clear h1
          go_wp2
          all_goals (go_ret; exact ⟨ret_bool HV.out.symm, Later.rfl' _⟩)
        · have g1 : ((s[k]'hlt).toNat : Int) < 48 := by omega
          have g4 : decide ((97 : Int) ≤ ((s[k]'hlt).toNat : Int)) = false := by simp; omega
          have g5 : decide ((48 : Int) ≤ ((s[k]'hlt).toNat : Int)) = false := by simp; omega
          have g0 : ((k : Int) == 0) = false := by simp; omega
          clear h1
          go_wp2
          all_goals (go_ret; exact ⟨ret_bool HV.out.symm, Later.rfl' _⟩)
        · have g1 : (57 : Int) < ((s[k]'hlt).toNat : Int) := by omega
          have g2 : ((s[k]'hlt).toNat : Int) < 97 := by omega
          have g3 : (48 : Int) ≤ ((s[k]'hlt).toNat : Int) := by omega
          have g4 : decide ((97 : Int) ≤ ((s[k]'hlt).toNat : Int)) = false := by simp; omega
          have g5 : decide (((s[k]'hlt).toNat : Int) ≤ 57) = false := by simp; omega
          have g0 : ((k : Int) == 0) = false := by simp; omega
          clear h1 h2
          go_wp2
          all_goals (go_ret; exact ⟨ret_bool HV.out.symm, Later.rfl' _⟩)
        · have g1 : (122 : Int) < ((s[k]'hlt).toNat : Int) := by omega
          have g3 : (97 : Int) ≤ ((s[k]'hlt).toNat : Int) := by omega
          have g4 : decide (((s[k]'hlt).toNat : Int) ≤ 122) = false := by simp; omega
          have g6 : (48 : Int) ≤ ((s[k]'hlt).toNat : Int) := by omega
          have g5 : decide (((s[k]'hlt).toNat : Int) ≤ 57) = false := by simp; omega
          have g0 : ((k : Int) == 0) = false := by simp; omega
          clear h1
          go_wp2
          all_goals (go_ret; exact ⟨ret_bool HV.out.symm, Later.rfl' _⟩)
    · have HV : Hid (wordI s = (decide (1 ≤ s.size) && decide (s.size ≤ 8))) := by
        unfold Hid wordI
        rw [shape_all fun j hj => HA.out j hj (by omega)]
        rfl
      go_wp2
      all_goals (go_ret; exact ⟨ret_bool (by refine Eq.trans ?_ HV.out.symm; first | rfl | (rw [decide_eq_true (show 1 ≤ s.size by omega), Bool.true_and]; exact decide_eq_decide.2 (by omega)) | (rw [decide_eq_false (show ¬ 1 ≤ s.size by omega)]; rfl)), Later.rfl' _⟩)
end Go.Proofs.Ytghemlokpfipoaa
