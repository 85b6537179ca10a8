/-
  Expressions: isNode, l10Node: the walks.
-/
import Derived.Test.YtghemlokpfipoaaYE1
import Derived.Test.YtghemlokpfipoaaYMA
namespace Go.Proofs.Ytghemlokpfipoaa
open Go.ChangeShapes Go.WideShapes Go.ChangeAt Go.RowKit
set_option linter.unusedVariables false
set_option linter.unusedSimpArgs false

/-- Within two ends. -/
def inB (n lo hi : Int) : Bool := decide (lo ≤ n) && decide (n ≤ hi)
/-- A node, without its arguments' contents, is valid. -/
def nodeOK (k n : Int) (t : ByteArray) (m : Nat) : Bool :=
  if k = 1 then decide (m = 0) && (t.toList.isEmpty && inB n 0 1000000000)
  else if k = 2 then decide (m = 0) && (decide (n = 0) && validText t)
  else if k = 3 then decide (m = 0) && (decide (n = 0) && validName t)
  else if k = 4 then decide (n = 0) && (t.toList.isEmpty && decide (m ≤ 8))
  else if k = 5 then decide (n = 0) && decide ((m : Int) = argCount t)
  else if k = 6 then t.toList.isEmpty && (decide (m = 2) && inB n 1 5)
  else if k = 7 ∨ k = 9 then decide (n = 0) && (decide (m = 2) && validName t)
  else if k = 8 then decide (n = 0) && (t.toList.isEmpty && decide (m = 3))
  else false
theorem kind_ways (k : Int) : k = 1 ∨ k = 2 ∨ k = 3 ∨ k = 4 ∨ k = 5 ∨ k = 6 ∨ k = 7 ∨ k = 8 ∨ k = 9 ∨ (k < 1 ∨ 9 < k) := by omega
theorem node_other {k n : Int} {t : ByteArray} {m : Nat} (h : k < 1 ∨ 9 < k) : nodeOK k n t m = false := by
  unfold nodeOK
  rw [if_neg (by omega), if_neg (by omega), if_neg (by omega), if_neg (by omega), if_neg (by omega), if_neg (by omega), if_neg (by omega), if_neg (by omega)]

theorem In_Try.f99 (n lo hi : Int) (w : World) : Calls Try.prog 99 #[.int .i64 n, .int .i64 lo, .int .i64 hi] w fun r w' => r = .returned (.bool (inB n lo hi)) ∧ w' = w := by
  by_cases h1 : lo ≤ n
  · by_cases h2 : n ≤ hi
    · have HV : Hid (inB n lo hi = true) := by unfold Hid; simp [inB, h1, h2]
      go_enter Try.func99, Try.ntmps99
      go_wp2_with fail
      go_ret
      exact ⟨ret_bool HV.out.symm, rfl⟩
    · have HV : Hid (inB n lo hi = false) := by unfold Hid; simp [inB, h1, h2]
      have h3 : decide (n ≤ hi) = false := by simp; omega
      have h2 : hi < n := by omega
      go_enter Try.func99, Try.ntmps99
      go_wp2_with fail
      go_ret
      exact ⟨ret_bool HV.out.symm, rfl⟩
  · have HV : Hid (inB n lo hi = false) := by unfold Hid; simp [inB, h1]
    have h3 : decide (lo ≤ n) = false := by simp; omega
    have h1 : n < lo := by omega
    go_enter Try.func99, Try.ntmps99
    go_wp2_with fail
    go_ret
    exact ⟨ret_bool HV.out.symm, rfl⟩
theorem In_Try.f68 (n lo hi : Int) (w : World) : Calls Try.prog 68 #[.int .i64 n, .int .i64 lo, .int .i64 hi] w fun r w' => r = .returned (.bool (inB n lo hi)) ∧ w' = w := by
  by_cases h1 : lo ≤ n
  · by_cases h2 : n ≤ hi
    · have HV : Hid (inB n lo hi = true) := by unfold Hid; simp [inB, h1, h2]
      go_enter Try.func68, Try.ntmps68
      go_wp2_with fail
      go_ret
      exact ⟨ret_bool HV.out.symm, rfl⟩
    · have HV : Hid (inB n lo hi = false) := by unfold Hid; simp [inB, h1, h2]
      have h3 : decide (n ≤ hi) = false := by simp; omega
      have h2 : hi < n := by omega
      go_enter Try.func68, Try.ntmps68
      go_wp2_with fail
      go_ret
      exact ⟨ret_bool HV.out.symm, rfl⟩
  · have HV : Hid (inB n lo hi = false) := by unfold Hid; simp [inB, h1]
    have h3 : decide (lo ≤ n) = false := by simp; omega
    have h1 : n < lo := by omega
    go_enter Try.func68, Try.ntmps68
    go_wp2_with fail
    go_ret
    exact ⟨ret_bool HV.out.symm, rfl⟩

set_option maxHeartbeats 1000000 in
theorem specl10Node_1 (n : Int) (t : ByteArray) (A : Option Addr) (m c : Nat) (w : World) (ht : t.size ≤ maxLen) (hm : m ≤ 9223372036854775807) : Calls Try.prog 165 #[.agg #[.int .i64 1, .int .i64 n, .string t, .slice A m c]] w fun r w' => r = .returned (.bool (nodeOK 1 n t m)) ∧ Later w w' := by
  have CT := fun W => specIsValidText t W ht
  have CN := fun W => specIsValidName t W ht
  have CA := fun W => specArgumentCount t W ht
  have CI := fun W => In_Try.f99 n 0 1000000000 W
  have CJ := fun W => In_Try.f99 n 1 5 W
  by_cases xm0 : m = 0
  rotate_left
  ·
    have ym0 : ((m : Int) == 0) = false := by simp; omega
    have HV : Hid (nodeOK 1 n t m = false) := by unfold Hid; simp [nodeOK, xm0]
    have HCT := Lib.hid CT; have HCN := Lib.hid CN; have HCA := Lib.hid CA; have HCI := Lib.hid CI; have HCJ := Lib.hid CJ
    clear CT CN CA CI CJ xm0
    go_enter Try.func165, Try.ntmps165
    go_wp2_with (first | (go_at_call 96; refine (HCT.out _).mono ?_; rintro r w1 ⟨rfl, hb1⟩) | (go_at_call 171; refine (HCN.out _).mono ?_; rintro r w1 ⟨rfl, hb1⟩) | (go_at_call 197; refine (HCA.out _).mono ?_; rintro r w1 ⟨rfl, hb1⟩) | (go_at_call 99; refine (HCI.out _).mono ?_; rintro r w1 ⟨rfl, rfl⟩))
    go_ret
    first | exact ⟨ret_bool HV.out.symm, (Later.rfl' _).alloc _⟩ | exact ⟨ret_bool HV.out.symm, ((Later.rfl' _).alloc _).trans hb1⟩
  have ym0 : ((m : Int) == 0) = true := by simp [xm0]
  rcases Bool.eq_false_or_eq_true t.toList.isEmpty with xte | xte
  rotate_left
  ·
    have yte : t.toList.isEmpty = false := xte
    have HV : Hid (nodeOK 1 n t m = false) := by unfold Hid; simp [nodeOK, xm0, xte]
    have HCT := Lib.hid CT; have HCN := Lib.hid CN; have HCA := Lib.hid CA; have HCI := Lib.hid CI; have HCJ := Lib.hid CJ
    clear CT CN CA CI CJ xm0 xte
    go_enter Try.func165, Try.ntmps165
    go_wp2_with (first | (go_at_call 96; refine (HCT.out _).mono ?_; rintro r w1 ⟨rfl, hb1⟩) | (go_at_call 171; refine (HCN.out _).mono ?_; rintro r w1 ⟨rfl, hb1⟩) | (go_at_call 197; refine (HCA.out _).mono ?_; rintro r w1 ⟨rfl, hb1⟩) | (go_at_call 99; refine (HCI.out _).mono ?_; rintro r w1 ⟨rfl, rfl⟩))
    go_ret
    first | exact ⟨ret_bool HV.out.symm, (Later.rfl' _).alloc _⟩ | exact ⟨ret_bool HV.out.symm, ((Later.rfl' _).alloc _).trans hb1⟩
  have yte : t.toList.isEmpty = true := xte
  rcases Bool.eq_false_or_eq_true (inB n 0 1000000000) with xin1 | xin1
  rotate_left
  ·
    rw [xin1] at CI
    have HV : Hid (nodeOK 1 n t m = false) := by unfold Hid; simp [nodeOK, xm0, xte, xin1]
    have HCT := Lib.hid CT; have HCN := Lib.hid CN; have HCA := Lib.hid CA; have HCI := Lib.hid CI; have HCJ := Lib.hid CJ
    clear CT CN CA CI CJ xm0 xte xin1
    go_enter Try.func165, Try.ntmps165
    go_wp2_with (first | (go_at_call 96; refine (HCT.out _).mono ?_; rintro r w1 ⟨rfl, hb1⟩) | (go_at_call 171; refine (HCN.out _).mono ?_; rintro r w1 ⟨rfl, hb1⟩) | (go_at_call 197; refine (HCA.out _).mono ?_; rintro r w1 ⟨rfl, hb1⟩) | (go_at_call 99; refine (HCI.out _).mono ?_; rintro r w1 ⟨rfl, rfl⟩))
    go_ret
    first | exact ⟨ret_bool HV.out.symm, (Later.rfl' _).alloc _⟩ | exact ⟨ret_bool HV.out.symm, ((Later.rfl' _).alloc _).trans hb1⟩
  rw [xin1] at CI
  have HV : Hid (nodeOK 1 n t m = true) := by unfold Hid; simp [nodeOK, xm0, xte, xin1]
  have HCT := Lib.hid CT; have HCN := Lib.hid CN; have HCA := Lib.hid CA; have HCI := Lib.hid CI; have HCJ := Lib.hid CJ
  clear CT CN CA CI CJ xm0 xte xin1
  go_enter Try.func165, Try.ntmps165
  go_wp2_with (first | (go_at_call 96; refine (HCT.out _).mono ?_; rintro r w1 ⟨rfl, hb1⟩) | (go_at_call 171; refine (HCN.out _).mono ?_; rintro r w1 ⟨rfl, hb1⟩) | (go_at_call 197; refine (HCA.out _).mono ?_; rintro r w1 ⟨rfl, hb1⟩) | (go_at_call 99; refine (HCI.out _).mono ?_; rintro r w1 ⟨rfl, rfl⟩))
  go_ret
  first | exact ⟨ret_bool HV.out.symm, (Later.rfl' _).alloc _⟩ | exact ⟨ret_bool HV.out.symm, ((Later.rfl' _).alloc _).trans hb1⟩
set_option maxHeartbeats 1000000 in
theorem specl10Node_2 (n : Int) (t : ByteArray) (A : Option Addr) (m c : Nat) (w : World) (ht : t.size ≤ maxLen) (hm : m ≤ 9223372036854775807) : Calls Try.prog 165 #[.agg #[.int .i64 2, .int .i64 n, .string t, .slice A m c]] w fun r w' => r = .returned (.bool (nodeOK 2 n t m)) ∧ Later w w' := by
  have CT := fun W => specIsValidText t W ht
  have CN := fun W => specIsValidName t W ht
  have CA := fun W => specArgumentCount t W ht
  have CI := fun W => In_Try.f99 n 0 1000000000 W
  have CJ := fun W => In_Try.f99 n 1 5 W
  by_cases xm0 : m = 0
  rotate_left
  ·
    have ym0 : ((m : Int) == 0) = false := by simp; omega
    have HV : Hid (nodeOK 2 n t m = false) := by unfold Hid; simp [nodeOK, xm0]
    have HCT := Lib.hid CT; have HCN := Lib.hid CN; have HCA := Lib.hid CA; have HCI := Lib.hid CI; have HCJ := Lib.hid CJ
    clear CT CN CA CI CJ xm0
    go_enter Try.func165, Try.ntmps165
    go_wp2_with (first | (go_at_call 96; refine (HCT.out _).mono ?_; rintro r w1 ⟨rfl, hb1⟩) | (go_at_call 171; refine (HCN.out _).mono ?_; rintro r w1 ⟨rfl, hb1⟩) | (go_at_call 197; refine (HCA.out _).mono ?_; rintro r w1 ⟨rfl, hb1⟩))
    go_ret
    first | exact ⟨ret_bool HV.out.symm, (Later.rfl' _).alloc _⟩ | exact ⟨ret_bool HV.out.symm, ((Later.rfl' _).alloc _).trans hb1⟩
  have ym0 : ((m : Int) == 0) = true := by simp [xm0]
  by_cases xn0 : n = 0
  rotate_left
  ·
    have yn0 : (n == 0) = false := by simp; omega
    have HV : Hid (nodeOK 2 n t m = false) := by unfold Hid; simp [nodeOK, xm0, xn0]
    have HCT := Lib.hid CT; have HCN := Lib.hid CN; have HCA := Lib.hid CA; have HCI := Lib.hid CI; have HCJ := Lib.hid CJ
    clear CT CN CA CI CJ xm0 xn0
    go_enter Try.func165, Try.ntmps165
    go_wp2_with (first | (go_at_call 96; refine (HCT.out _).mono ?_; rintro r w1 ⟨rfl, hb1⟩) | (go_at_call 171; refine (HCN.out _).mono ?_; rintro r w1 ⟨rfl, hb1⟩) | (go_at_call 197; refine (HCA.out _).mono ?_; rintro r w1 ⟨rfl, hb1⟩))
    go_ret
    first | exact ⟨ret_bool HV.out.symm, (Later.rfl' _).alloc _⟩ | exact ⟨ret_bool HV.out.symm, ((Later.rfl' _).alloc _).trans hb1⟩
  have yn0 : (n == 0) = true := by simp [xn0]
  rcases Bool.eq_false_or_eq_true (validText t) with xvt | xvt
  rotate_left
  ·
    rw [xvt] at CT
    have HV : Hid (nodeOK 2 n t m = false) := by unfold Hid; simp [nodeOK, xm0, xn0, xvt]
    have HCT := Lib.hid CT; have HCN := Lib.hid CN; have HCA := Lib.hid CA; have HCI := Lib.hid CI; have HCJ := Lib.hid CJ
    clear CT CN CA CI CJ xm0 xn0 xvt
    go_enter Try.func165, Try.ntmps165
    go_wp2_with (first | (go_at_call 96; refine (HCT.out _).mono ?_; rintro r w1 ⟨rfl, hb1⟩) | (go_at_call 171; refine (HCN.out _).mono ?_; rintro r w1 ⟨rfl, hb1⟩) | (go_at_call 197; refine (HCA.out _).mono ?_; rintro r w1 ⟨rfl, hb1⟩))
    go_ret
    first | exact ⟨ret_bool HV.out.symm, (Later.rfl' _).alloc _⟩ | exact ⟨ret_bool HV.out.symm, ((Later.rfl' _).alloc _).trans hb1⟩
  rw [xvt] at CT
  have HV : Hid (nodeOK 2 n t m = true) := by unfold Hid; simp [nodeOK, xm0, xn0, xvt]
  have HCT := Lib.hid CT; have HCN := Lib.hid CN; have HCA := Lib.hid CA; have HCI := Lib.hid CI; have HCJ := Lib.hid CJ
  clear CT CN CA CI CJ xm0 xn0 xvt
  go_enter Try.func165, Try.ntmps165
  go_wp2_with (first | (go_at_call 96; refine (HCT.out _).mono ?_; rintro r w1 ⟨rfl, hb1⟩) | (go_at_call 171; refine (HCN.out _).mono ?_; rintro r w1 ⟨rfl, hb1⟩) | (go_at_call 197; refine (HCA.out _).mono ?_; rintro r w1 ⟨rfl, hb1⟩))
  go_ret
  first | exact ⟨ret_bool HV.out.symm, (Later.rfl' _).alloc _⟩ | exact ⟨ret_bool HV.out.symm, ((Later.rfl' _).alloc _).trans hb1⟩
set_option maxHeartbeats 1000000 in
theorem specl10Node_3 (n : Int) (t : ByteArray) (A : Option Addr) (m c : Nat) (w : World) (ht : t.size ≤ maxLen) (hm : m ≤ 9223372036854775807) : Calls Try.prog 165 #[.agg #[.int .i64 3, .int .i64 n, .string t, .slice A m c]] w fun r w' => r = .returned (.bool (nodeOK 3 n t m)) ∧ Later w w' := by
  have CT := fun W => specIsValidText t W ht
  have CN := fun W => specIsValidName t W ht
  have CA := fun W => specArgumentCount t W ht
  have CI := fun W => In_Try.f99 n 0 1000000000 W
  have CJ := fun W => In_Try.f99 n 1 5 W
  by_cases xm0 : m = 0
  rotate_left
  ·
    have ym0 : ((m : Int) == 0) = false := by simp; omega
    have HV : Hid (nodeOK 3 n t m = false) := by unfold Hid; simp [nodeOK, xm0]
    have HCT := Lib.hid CT; have HCN := Lib.hid CN; have HCA := Lib.hid CA; have HCI := Lib.hid CI; have HCJ := Lib.hid CJ
    clear CT CN CA CI CJ xm0
    go_enter Try.func165, Try.ntmps165
    go_wp2_with (first | (go_at_call 96; refine (HCT.out _).mono ?_; rintro r w1 ⟨rfl, hb1⟩) | (go_at_call 171; refine (HCN.out _).mono ?_; rintro r w1 ⟨rfl, hb1⟩) | (go_at_call 197; refine (HCA.out _).mono ?_; rintro r w1 ⟨rfl, hb1⟩))
    go_ret
    first | exact ⟨ret_bool HV.out.symm, (Later.rfl' _).alloc _⟩ | exact ⟨ret_bool HV.out.symm, ((Later.rfl' _).alloc _).trans hb1⟩
  have ym0 : ((m : Int) == 0) = true := by simp [xm0]
  by_cases xn0 : n = 0
  rotate_left
  ·
    have yn0 : (n == 0) = false := by simp; omega
    have HV : Hid (nodeOK 3 n t m = false) := by unfold Hid; simp [nodeOK, xm0, xn0]
    have HCT := Lib.hid CT; have HCN := Lib.hid CN; have HCA := Lib.hid CA; have HCI := Lib.hid CI; have HCJ := Lib.hid CJ
    clear CT CN CA CI CJ xm0 xn0
    go_enter Try.func165, Try.ntmps165
    go_wp2_with (first | (go_at_call 96; refine (HCT.out _).mono ?_; rintro r w1 ⟨rfl, hb1⟩) | (go_at_call 171; refine (HCN.out _).mono ?_; rintro r w1 ⟨rfl, hb1⟩) | (go_at_call 197; refine (HCA.out _).mono ?_; rintro r w1 ⟨rfl, hb1⟩))
    go_ret
    first | exact ⟨ret_bool HV.out.symm, (Later.rfl' _).alloc _⟩ | exact ⟨ret_bool HV.out.symm, ((Later.rfl' _).alloc _).trans hb1⟩
  have yn0 : (n == 0) = true := by simp [xn0]
  rcases Bool.eq_false_or_eq_true (validName t) with xvn | xvn
  rotate_left
  ·
    rw [xvn] at CN
    have HV : Hid (nodeOK 3 n t m = false) := by unfold Hid; simp [nodeOK, xm0, xn0, xvn]
    have HCT := Lib.hid CT; have HCN := Lib.hid CN; have HCA := Lib.hid CA; have HCI := Lib.hid CI; have HCJ := Lib.hid CJ
    clear CT CN CA CI CJ xm0 xn0 xvn
    go_enter Try.func165, Try.ntmps165
    go_wp2_with (first | (go_at_call 96; refine (HCT.out _).mono ?_; rintro r w1 ⟨rfl, hb1⟩) | (go_at_call 171; refine (HCN.out _).mono ?_; rintro r w1 ⟨rfl, hb1⟩) | (go_at_call 197; refine (HCA.out _).mono ?_; rintro r w1 ⟨rfl, hb1⟩))
    go_ret
    first | exact ⟨ret_bool HV.out.symm, (Later.rfl' _).alloc _⟩ | exact ⟨ret_bool HV.out.symm, ((Later.rfl' _).alloc _).trans hb1⟩
  rw [xvn] at CN
  have HV : Hid (nodeOK 3 n t m = true) := by unfold Hid; simp [nodeOK, xm0, xn0, xvn]
  have HCT := Lib.hid CT; have HCN := Lib.hid CN; have HCA := Lib.hid CA; have HCI := Lib.hid CI; have HCJ := Lib.hid CJ
  clear CT CN CA CI CJ xm0 xn0 xvn
  go_enter Try.func165, Try.ntmps165
  go_wp2_with (first | (go_at_call 96; refine (HCT.out _).mono ?_; rintro r w1 ⟨rfl, hb1⟩) | (go_at_call 171; refine (HCN.out _).mono ?_; rintro r w1 ⟨rfl, hb1⟩) | (go_at_call 197; refine (HCA.out _).mono ?_; rintro r w1 ⟨rfl, hb1⟩))
  go_ret
  first | exact ⟨ret_bool HV.out.symm, (Later.rfl' _).alloc _⟩ | exact ⟨ret_bool HV.out.symm, ((Later.rfl' _).alloc _).trans hb1⟩
set_option maxHeartbeats 1000000 in
theorem specl10Node_4 (n : Int) (t : ByteArray) (A : Option Addr) (m c : Nat) (w : World) (ht : t.size ≤ maxLen) (hm : m ≤ 9223372036854775807) : Calls Try.prog 165 #[.agg #[.int .i64 4, .int .i64 n, .string t, .slice A m c]] w fun r w' => r = .returned (.bool (nodeOK 4 n t m)) ∧ Later w w' := by
  have CT := fun W => specIsValidText t W ht
  have CN := fun W => specIsValidName t W ht
  have CA := fun W => specArgumentCount t W ht
  have CI := fun W => In_Try.f99 n 0 1000000000 W
  have CJ := fun W => In_Try.f99 n 1 5 W
  by_cases xn0 : n = 0
  rotate_left
  ·
    have yn0 : (n == 0) = false := by simp; omega
    have HV : Hid (nodeOK 4 n t m = false) := by unfold Hid; simp [nodeOK, xn0]
    have HCT := Lib.hid CT; have HCN := Lib.hid CN; have HCA := Lib.hid CA; have HCI := Lib.hid CI; have HCJ := Lib.hid CJ
    clear CT CN CA CI CJ xn0
    go_enter Try.func165, Try.ntmps165
    go_wp2_with (first | (go_at_call 96; refine (HCT.out _).mono ?_; rintro r w1 ⟨rfl, hb1⟩) | (go_at_call 171; refine (HCN.out _).mono ?_; rintro r w1 ⟨rfl, hb1⟩) | (go_at_call 197; refine (HCA.out _).mono ?_; rintro r w1 ⟨rfl, hb1⟩))
    go_ret
    first | exact ⟨ret_bool HV.out.symm, (Later.rfl' _).alloc _⟩ | exact ⟨ret_bool HV.out.symm, ((Later.rfl' _).alloc _).trans hb1⟩
  have yn0 : (n == 0) = true := by simp [xn0]
  rcases Bool.eq_false_or_eq_true t.toList.isEmpty with xte | xte
  rotate_left
  ·
    have yte : t.toList.isEmpty = false := xte
    have HV : Hid (nodeOK 4 n t m = false) := by unfold Hid; simp [nodeOK, xn0, xte]
    have HCT := Lib.hid CT; have HCN := Lib.hid CN; have HCA := Lib.hid CA; have HCI := Lib.hid CI; have HCJ := Lib.hid CJ
    clear CT CN CA CI CJ xn0 xte
    go_enter Try.func165, Try.ntmps165
    go_wp2_with (first | (go_at_call 96; refine (HCT.out _).mono ?_; rintro r w1 ⟨rfl, hb1⟩) | (go_at_call 171; refine (HCN.out _).mono ?_; rintro r w1 ⟨rfl, hb1⟩) | (go_at_call 197; refine (HCA.out _).mono ?_; rintro r w1 ⟨rfl, hb1⟩))
    go_ret
    first | exact ⟨ret_bool HV.out.symm, (Later.rfl' _).alloc _⟩ | exact ⟨ret_bool HV.out.symm, ((Later.rfl' _).alloc _).trans hb1⟩
  have yte : t.toList.isEmpty = true := xte
  by_cases xm8 : m ≤ 8
  rotate_left
  ·
    have ym8 : (8 : Int) < (m : Int) := by omega
    have zm8 : decide ((m : Int) ≤ 8) = false := by simp; omega
    have HV : Hid (nodeOK 4 n t m = false) := by unfold Hid; simp [nodeOK, xn0, xte, xm8]
    have HCT := Lib.hid CT; have HCN := Lib.hid CN; have HCA := Lib.hid CA; have HCI := Lib.hid CI; have HCJ := Lib.hid CJ
    clear CT CN CA CI CJ xn0 xte xm8
    go_enter Try.func165, Try.ntmps165
    go_wp2_with (first | (go_at_call 96; refine (HCT.out _).mono ?_; rintro r w1 ⟨rfl, hb1⟩) | (go_at_call 171; refine (HCN.out _).mono ?_; rintro r w1 ⟨rfl, hb1⟩) | (go_at_call 197; refine (HCA.out _).mono ?_; rintro r w1 ⟨rfl, hb1⟩))
    go_ret
    first | exact ⟨ret_bool HV.out.symm, (Later.rfl' _).alloc _⟩ | exact ⟨ret_bool HV.out.symm, ((Later.rfl' _).alloc _).trans hb1⟩
  have ym8 : (m : Int) ≤ 8 := by omega
  have HV : Hid (nodeOK 4 n t m = true) := by unfold Hid; simp [nodeOK, xn0, xte, xm8]
  have HCT := Lib.hid CT; have HCN := Lib.hid CN; have HCA := Lib.hid CA; have HCI := Lib.hid CI; have HCJ := Lib.hid CJ
  clear CT CN CA CI CJ xn0 xte xm8
  go_enter Try.func165, Try.ntmps165
  go_wp2_with (first | (go_at_call 96; refine (HCT.out _).mono ?_; rintro r w1 ⟨rfl, hb1⟩) | (go_at_call 171; refine (HCN.out _).mono ?_; rintro r w1 ⟨rfl, hb1⟩) | (go_at_call 197; refine (HCA.out _).mono ?_; rintro r w1 ⟨rfl, hb1⟩))
  go_ret
  first | exact ⟨ret_bool HV.out.symm, (Later.rfl' _).alloc _⟩ | exact ⟨ret_bool HV.out.symm, ((Later.rfl' _).alloc _).trans hb1⟩
set_option maxHeartbeats 1000000 in
theorem specl10Node_5 (n : Int) (t : ByteArray) (A : Option Addr) (m c : Nat) (w : World) (ht : t.size ≤ maxLen) (hm : m ≤ 9223372036854775807) : Calls Try.prog 165 #[.agg #[.int .i64 5, .int .i64 n, .string t, .slice A m c]] w fun r w' => r = .returned (.bool (nodeOK 5 n t m)) ∧ Later w w' := by
  have CT := fun W => specIsValidText t W ht
  have CN := fun W => specIsValidName t W ht
  have CA := fun W => specArgumentCount t W ht
  have CI := fun W => In_Try.f99 n 0 1000000000 W
  have CJ := fun W => In_Try.f99 n 1 5 W
  by_cases xn0 : n = 0
  rotate_left
  ·
    have yn0 : (n == 0) = false := by simp; omega
    have HV : Hid (nodeOK 5 n t m = false) := by unfold Hid; simp [nodeOK, xn0]
    have HCT := Lib.hid CT; have HCN := Lib.hid CN; have HCA := Lib.hid CA; have HCI := Lib.hid CI; have HCJ := Lib.hid CJ
    clear CT CN CA CI CJ xn0
    go_enter Try.func165, Try.ntmps165
    go_wp2_with (first | (go_at_call 96; refine (HCT.out _).mono ?_; rintro r w1 ⟨rfl, hb1⟩) | (go_at_call 171; refine (HCN.out _).mono ?_; rintro r w1 ⟨rfl, hb1⟩) | (go_at_call 197; refine (HCA.out _).mono ?_; rintro r w1 ⟨rfl, hb1⟩))
    go_ret
    first | exact ⟨ret_bool HV.out.symm, (Later.rfl' _).alloc _⟩ | exact ⟨ret_bool HV.out.symm, ((Later.rfl' _).alloc _).trans hb1⟩
  have yn0 : (n == 0) = true := by simp [xn0]
  by_cases xac : (m : Int) = argCount t
  rotate_left
  ·
    have yac : ((m : Int) == argCount t) = false := by simp; omega
    have HV : Hid (nodeOK 5 n t m = false) := by unfold Hid; simp [nodeOK, xn0, xac]
    have HCT := Lib.hid CT; have HCN := Lib.hid CN; have HCA := Lib.hid CA; have HCI := Lib.hid CI; have HCJ := Lib.hid CJ
    clear CT CN CA CI CJ xn0 xac
    go_enter Try.func165, Try.ntmps165
    go_wp2_with (first | (go_at_call 96; refine (HCT.out _).mono ?_; rintro r w1 ⟨rfl, hb1⟩) | (go_at_call 171; refine (HCN.out _).mono ?_; rintro r w1 ⟨rfl, hb1⟩) | (go_at_call 197; refine (HCA.out _).mono ?_; rintro r w1 ⟨rfl, hb1⟩))
    go_ret
    first | exact ⟨ret_bool HV.out.symm, (Later.rfl' _).alloc _⟩ | exact ⟨ret_bool HV.out.symm, ((Later.rfl' _).alloc _).trans hb1⟩
  have yac : ((m : Int) == argCount t) = true := by simp [xac]
  have HV : Hid (nodeOK 5 n t m = true) := by unfold Hid; simp [nodeOK, xn0, xac]
  have HCT := Lib.hid CT; have HCN := Lib.hid CN; have HCA := Lib.hid CA; have HCI := Lib.hid CI; have HCJ := Lib.hid CJ
  clear CT CN CA CI CJ xn0 xac
  go_enter Try.func165, Try.ntmps165
  go_wp2_with (first | (go_at_call 96; refine (HCT.out _).mono ?_; rintro r w1 ⟨rfl, hb1⟩) | (go_at_call 171; refine (HCN.out _).mono ?_; rintro r w1 ⟨rfl, hb1⟩) | (go_at_call 197; refine (HCA.out _).mono ?_; rintro r w1 ⟨rfl, hb1⟩))
  go_ret
  first | exact ⟨ret_bool HV.out.symm, (Later.rfl' _).alloc _⟩ | exact ⟨ret_bool HV.out.symm, ((Later.rfl' _).alloc _).trans hb1⟩
set_option maxHeartbeats 1000000 in
theorem specl10Node_6 (n : Int) (t : ByteArray) (A : Option Addr) (m c : Nat) (w : World) (ht : t.size ≤ maxLen) (hm : m ≤ 9223372036854775807) : Calls Try.prog 165 #[.agg #[.int .i64 6, .int .i64 n, .string t, .slice A m c]] w fun r w' => r = .returned (.bool (nodeOK 6 n t m)) ∧ Later w w' := by
  have CT := fun W => specIsValidText t W ht
  have CN := fun W => specIsValidName t W ht
  have CA := fun W => specArgumentCount t W ht
  have CI := fun W => In_Try.f99 n 0 1000000000 W
  have CJ := fun W => In_Try.f99 n 1 5 W
  rcases Bool.eq_false_or_eq_true t.toList.isEmpty with xte | xte
  rotate_left
  ·
    have yte : t.toList.isEmpty = false := xte
    have HV : Hid (nodeOK 6 n t m = false) := by unfold Hid; simp [nodeOK, xte]
    have HCT := Lib.hid CT; have HCN := Lib.hid CN; have HCA := Lib.hid CA; have HCI := Lib.hid CI; have HCJ := Lib.hid CJ
    clear CT CN CA CI CJ xte
    go_enter Try.func165, Try.ntmps165
    go_wp2_with (first | (go_at_call 96; refine (HCT.out _).mono ?_; rintro r w1 ⟨rfl, hb1⟩) | (go_at_call 171; refine (HCN.out _).mono ?_; rintro r w1 ⟨rfl, hb1⟩) | (go_at_call 197; refine (HCA.out _).mono ?_; rintro r w1 ⟨rfl, hb1⟩) | (go_at_call 99; refine (HCJ.out _).mono ?_; rintro r w1 ⟨rfl, rfl⟩))
    go_ret
    first | exact ⟨ret_bool HV.out.symm, (Later.rfl' _).alloc _⟩ | exact ⟨ret_bool HV.out.symm, ((Later.rfl' _).alloc _).trans hb1⟩
  have yte : t.toList.isEmpty = true := xte
  by_cases xm2 : m = 2
  rotate_left
  ·
    have ym2 : ((m : Int) == 2) = false := by simp; omega
    have HV : Hid (nodeOK 6 n t m = false) := by unfold Hid; simp [nodeOK, xte, xm2]
    have HCT := Lib.hid CT; have HCN := Lib.hid CN; have HCA := Lib.hid CA; have HCI := Lib.hid CI; have HCJ := Lib.hid CJ
    clear CT CN CA CI CJ xte xm2
    go_enter Try.func165, Try.ntmps165
    go_wp2_with (first | (go_at_call 96; refine (HCT.out _).mono ?_; rintro r w1 ⟨rfl, hb1⟩) | (go_at_call 171; refine (HCN.out _).mono ?_; rintro r w1 ⟨rfl, hb1⟩) | (go_at_call 197; refine (HCA.out _).mono ?_; rintro r w1 ⟨rfl, hb1⟩) | (go_at_call 99; refine (HCJ.out _).mono ?_; rintro r w1 ⟨rfl, rfl⟩))
    go_ret
    first | exact ⟨ret_bool HV.out.symm, (Later.rfl' _).alloc _⟩ | exact ⟨ret_bool HV.out.symm, ((Later.rfl' _).alloc _).trans hb1⟩
  have ym2 : ((m : Int) == 2) = true := by simp [xm2]
  rcases Bool.eq_false_or_eq_true (inB n 1 5) with xin6 | xin6
  rotate_left
  ·
    rw [xin6] at CJ
    have HV : Hid (nodeOK 6 n t m = false) := by unfold Hid; simp [nodeOK, xte, xm2, xin6]
    have HCT := Lib.hid CT; have HCN := Lib.hid CN; have HCA := Lib.hid CA; have HCI := Lib.hid CI; have HCJ := Lib.hid CJ
    clear CT CN CA CI CJ xte xm2 xin6
    go_enter Try.func165, Try.ntmps165
    go_wp2_with (first | (go_at_call 96; refine (HCT.out _).mono ?_; rintro r w1 ⟨rfl, hb1⟩) | (go_at_call 171; refine (HCN.out _).mono ?_; rintro r w1 ⟨rfl, hb1⟩) | (go_at_call 197; refine (HCA.out _).mono ?_; rintro r w1 ⟨rfl, hb1⟩) | (go_at_call 99; refine (HCJ.out _).mono ?_; rintro r w1 ⟨rfl, rfl⟩))
    go_ret
    first | exact ⟨ret_bool HV.out.symm, (Later.rfl' _).alloc _⟩ | exact ⟨ret_bool HV.out.symm, ((Later.rfl' _).alloc _).trans hb1⟩
  rw [xin6] at CJ
  have HV : Hid (nodeOK 6 n t m = true) := by unfold Hid; simp [nodeOK, xte, xm2, xin6]
  have HCT := Lib.hid CT; have HCN := Lib.hid CN; have HCA := Lib.hid CA; have HCI := Lib.hid CI; have HCJ := Lib.hid CJ
  clear CT CN CA CI CJ xte xm2 xin6
  go_enter Try.func165, Try.ntmps165
  go_wp2_with (first | (go_at_call 96; refine (HCT.out _).mono ?_; rintro r w1 ⟨rfl, hb1⟩) | (go_at_call 171; refine (HCN.out _).mono ?_; rintro r w1 ⟨rfl, hb1⟩) | (go_at_call 197; refine (HCA.out _).mono ?_; rintro r w1 ⟨rfl, hb1⟩) | (go_at_call 99; refine (HCJ.out _).mono ?_; rintro r w1 ⟨rfl, rfl⟩))
  go_ret
  first | exact ⟨ret_bool HV.out.symm, (Later.rfl' _).alloc _⟩ | exact ⟨ret_bool HV.out.symm, ((Later.rfl' _).alloc _).trans hb1⟩
set_option maxHeartbeats 1000000 in
theorem specl10Node_7 (n : Int) (t : ByteArray) (A : Option Addr) (m c : Nat) (w : World) (ht : t.size ≤ maxLen) (hm : m ≤ 9223372036854775807) : Calls Try.prog 165 #[.agg #[.int .i64 7, .int .i64 n, .string t, .slice A m c]] w fun r w' => r = .returned (.bool (nodeOK 7 n t m)) ∧ Later w w' := by
  have CT := fun W => specIsValidText t W ht
  have CN := fun W => specIsValidName t W ht
  have CA := fun W => specArgumentCount t W ht
  have CI := fun W => In_Try.f99 n 0 1000000000 W
  have CJ := fun W => In_Try.f99 n 1 5 W
  by_cases xn0 : n = 0
  rotate_left
  ·
    have yn0 : (n == 0) = false := by simp; omega
    have HV : Hid (nodeOK 7 n t m = false) := by unfold Hid; simp [nodeOK, xn0]
    have HCT := Lib.hid CT; have HCN := Lib.hid CN; have HCA := Lib.hid CA; have HCI := Lib.hid CI; have HCJ := Lib.hid CJ
    clear CT CN CA CI CJ xn0
    go_enter Try.func165, Try.ntmps165
    go_wp2_with (first | (go_at_call 96; refine (HCT.out _).mono ?_; rintro r w1 ⟨rfl, hb1⟩) | (go_at_call 171; refine (HCN.out _).mono ?_; rintro r w1 ⟨rfl, hb1⟩) | (go_at_call 197; refine (HCA.out _).mono ?_; rintro r w1 ⟨rfl, hb1⟩))
    go_ret
    first | exact ⟨ret_bool HV.out.symm, (Later.rfl' _).alloc _⟩ | exact ⟨ret_bool HV.out.symm, ((Later.rfl' _).alloc _).trans hb1⟩
  have yn0 : (n == 0) = true := by simp [xn0]
  by_cases xm2 : m = 2
  rotate_left
  ·
    have ym2 : ((m : Int) == 2) = false := by simp; omega
    have HV : Hid (nodeOK 7 n t m = false) := by unfold Hid; simp [nodeOK, xn0, xm2]
    have HCT := Lib.hid CT; have HCN := Lib.hid CN; have HCA := Lib.hid CA; have HCI := Lib.hid CI; have HCJ := Lib.hid CJ
    clear CT CN CA CI CJ xn0 xm2
    go_enter Try.func165, Try.ntmps165
    go_wp2_with (first | (go_at_call 96; refine (HCT.out _).mono ?_; rintro r w1 ⟨rfl, hb1⟩) | (go_at_call 171; refine (HCN.out _).mono ?_; rintro r w1 ⟨rfl, hb1⟩) | (go_at_call 197; refine (HCA.out _).mono ?_; rintro r w1 ⟨rfl, hb1⟩))
    go_ret
    first | exact ⟨ret_bool HV.out.symm, (Later.rfl' _).alloc _⟩ | exact ⟨ret_bool HV.out.symm, ((Later.rfl' _).alloc _).trans hb1⟩
  have ym2 : ((m : Int) == 2) = true := by simp [xm2]
  rcases Bool.eq_false_or_eq_true (validName t) with xvn | xvn
  rotate_left
  ·
    rw [xvn] at CN
    have HV : Hid (nodeOK 7 n t m = false) := by unfold Hid; simp [nodeOK, xn0, xm2, xvn]
    have HCT := Lib.hid CT; have HCN := Lib.hid CN; have HCA := Lib.hid CA; have HCI := Lib.hid CI; have HCJ := Lib.hid CJ
    clear CT CN CA CI CJ xn0 xm2 xvn
    go_enter Try.func165, Try.ntmps165
    go_wp2_with (first | (go_at_call 96; refine (HCT.out _).mono ?_; rintro r w1 ⟨rfl, hb1⟩) | (go_at_call 171; refine (HCN.out _).mono ?_; rintro r w1 ⟨rfl, hb1⟩) | (go_at_call 197; refine (HCA.out _).mono ?_; rintro r w1 ⟨rfl, hb1⟩))
    go_ret
    first | exact ⟨ret_bool HV.out.symm, (Later.rfl' _).alloc _⟩ | exact ⟨ret_bool HV.out.symm, ((Later.rfl' _).alloc _).trans hb1⟩
  rw [xvn] at CN
  have HV : Hid (nodeOK 7 n t m = true) := by unfold Hid; simp [nodeOK, xn0, xm2, xvn]
  have HCT := Lib.hid CT; have HCN := Lib.hid CN; have HCA := Lib.hid CA; have HCI := Lib.hid CI; have HCJ := Lib.hid CJ
  clear CT CN CA CI CJ xn0 xm2 xvn
  go_enter Try.func165, Try.ntmps165
  go_wp2_with (first | (go_at_call 96; refine (HCT.out _).mono ?_; rintro r w1 ⟨rfl, hb1⟩) | (go_at_call 171; refine (HCN.out _).mono ?_; rintro r w1 ⟨rfl, hb1⟩) | (go_at_call 197; refine (HCA.out _).mono ?_; rintro r w1 ⟨rfl, hb1⟩))
  go_ret
  first | exact ⟨ret_bool HV.out.symm, (Later.rfl' _).alloc _⟩ | exact ⟨ret_bool HV.out.symm, ((Later.rfl' _).alloc _).trans hb1⟩
set_option maxHeartbeats 1000000 in
theorem specl10Node_8 (n : Int) (t : ByteArray) (A : Option Addr) (m c : Nat) (w : World) (ht : t.size ≤ maxLen) (hm : m ≤ 9223372036854775807) : Calls Try.prog 165 #[.agg #[.int .i64 8, .int .i64 n, .string t, .slice A m c]] w fun r w' => r = .returned (.bool (nodeOK 8 n t m)) ∧ Later w w' := by
  have CT := fun W => specIsValidText t W ht
  have CN := fun W => specIsValidName t W ht
  have CA := fun W => specArgumentCount t W ht
  have CI := fun W => In_Try.f99 n 0 1000000000 W
  have CJ := fun W => In_Try.f99 n 1 5 W
  by_cases xn0 : n = 0
  rotate_left
  ·
    have yn0 : (n == 0) = false := by simp; omega
    have HV : Hid (nodeOK 8 n t m = false) := by unfold Hid; simp [nodeOK, xn0]
    have HCT := Lib.hid CT; have HCN := Lib.hid CN; have HCA := Lib.hid CA; have HCI := Lib.hid CI; have HCJ := Lib.hid CJ
    clear CT CN CA CI CJ xn0
    go_enter Try.func165, Try.ntmps165
    go_wp2_with (first | (go_at_call 96; refine (HCT.out _).mono ?_; rintro r w1 ⟨rfl, hb1⟩) | (go_at_call 171; refine (HCN.out _).mono ?_; rintro r w1 ⟨rfl, hb1⟩) | (go_at_call 197; refine (HCA.out _).mono ?_; rintro r w1 ⟨rfl, hb1⟩))
    go_ret
    first | exact ⟨ret_bool HV.out.symm, (Later.rfl' _).alloc _⟩ | exact ⟨ret_bool HV.out.symm, ((Later.rfl' _).alloc _).trans hb1⟩
  have yn0 : (n == 0) = true := by simp [xn0]
  rcases Bool.eq_false_or_eq_true t.toList.isEmpty with xte | xte
  rotate_left
  ·
    have yte : t.toList.isEmpty = false := xte
    have HV : Hid (nodeOK 8 n t m = false) := by unfold Hid; simp [nodeOK, xn0, xte]
    have HCT := Lib.hid CT; have HCN := Lib.hid CN; have HCA := Lib.hid CA; have HCI := Lib.hid CI; have HCJ := Lib.hid CJ
    clear CT CN CA CI CJ xn0 xte
    go_enter Try.func165, Try.ntmps165
    go_wp2_with (first | (go_at_call 96; refine (HCT.out _).mono ?_; rintro r w1 ⟨rfl, hb1⟩) | (go_at_call 171; refine (HCN.out _).mono ?_; rintro r w1 ⟨rfl, hb1⟩) | (go_at_call 197; refine (HCA.out _).mono ?_; rintro r w1 ⟨rfl, hb1⟩))
    go_ret
    first | exact ⟨ret_bool HV.out.symm, (Later.rfl' _).alloc _⟩ | exact ⟨ret_bool HV.out.symm, ((Later.rfl' _).alloc _).trans hb1⟩
  have yte : t.toList.isEmpty = true := xte
  by_cases xm3 : m = 3
  rotate_left
  ·
    have ym3 : ((m : Int) == 3) = false := by simp; omega
    have HV : Hid (nodeOK 8 n t m = false) := by unfold Hid; simp [nodeOK, xn0, xte, xm3]
    have HCT := Lib.hid CT; have HCN := Lib.hid CN; have HCA := Lib.hid CA; have HCI := Lib.hid CI; have HCJ := Lib.hid CJ
    clear CT CN CA CI CJ xn0 xte xm3
    go_enter Try.func165, Try.ntmps165
    go_wp2_with (first | (go_at_call 96; refine (HCT.out _).mono ?_; rintro r w1 ⟨rfl, hb1⟩) | (go_at_call 171; refine (HCN.out _).mono ?_; rintro r w1 ⟨rfl, hb1⟩) | (go_at_call 197; refine (HCA.out _).mono ?_; rintro r w1 ⟨rfl, hb1⟩))
    go_ret
    first | exact ⟨ret_bool HV.out.symm, (Later.rfl' _).alloc _⟩ | exact ⟨ret_bool HV.out.symm, ((Later.rfl' _).alloc _).trans hb1⟩
  have ym3 : ((m : Int) == 3) = true := by simp [xm3]
  have HV : Hid (nodeOK 8 n t m = true) := by unfold Hid; simp [nodeOK, xn0, xte, xm3]
  have HCT := Lib.hid CT; have HCN := Lib.hid CN; have HCA := Lib.hid CA; have HCI := Lib.hid CI; have HCJ := Lib.hid CJ
  clear CT CN CA CI CJ xn0 xte xm3
  go_enter Try.func165, Try.ntmps165
  go_wp2_with (first | (go_at_call 96; refine (HCT.out _).mono ?_; rintro r w1 ⟨rfl, hb1⟩) | (go_at_call 171; refine (HCN.out _).mono ?_; rintro r w1 ⟨rfl, hb1⟩) | (go_at_call 197; refine (HCA.out _).mono ?_; rintro r w1 ⟨rfl, hb1⟩))
  go_ret
  first | exact ⟨ret_bool HV.out.symm, (Later.rfl' _).alloc _⟩ | exact ⟨ret_bool HV.out.symm, ((Later.rfl' _).alloc _).trans hb1⟩
set_option maxHeartbeats 1000000 in
theorem specl10Node_9 (n : Int) (t : ByteArray) (A : Option Addr) (m c : Nat) (w : World) (ht : t.size ≤ maxLen) (hm : m ≤ 9223372036854775807) : Calls Try.prog 165 #[.agg #[.int .i64 9, .int .i64 n, .string t, .slice A m c]] w fun r w' => r = .returned (.bool (nodeOK 9 n t m)) ∧ Later w w' := by
  have CT := fun W => specIsValidText t W ht
  have CN := fun W => specIsValidName t W ht
  have CA := fun W => specArgumentCount t W ht
  have CI := fun W => In_Try.f99 n 0 1000000000 W
  have CJ := fun W => In_Try.f99 n 1 5 W
  by_cases xn0 : n = 0
  rotate_left
  ·
    have yn0 : (n == 0) = false := by simp; omega
    have HV : Hid (nodeOK 9 n t m = false) := by unfold Hid; simp [nodeOK, xn0]
    have HCT := Lib.hid CT; have HCN := Lib.hid CN; have HCA := Lib.hid CA; have HCI := Lib.hid CI; have HCJ := Lib.hid CJ
    clear CT CN CA CI CJ xn0
    go_enter Try.func165, Try.ntmps165
    go_wp2_with (first | (go_at_call 96; refine (HCT.out _).mono ?_; rintro r w1 ⟨rfl, hb1⟩) | (go_at_call 171; refine (HCN.out _).mono ?_; rintro r w1 ⟨rfl, hb1⟩) | (go_at_call 197; refine (HCA.out _).mono ?_; rintro r w1 ⟨rfl, hb1⟩))
    go_ret
    first | exact ⟨ret_bool HV.out.symm, (Later.rfl' _).alloc _⟩ | exact ⟨ret_bool HV.out.symm, ((Later.rfl' _).alloc _).trans hb1⟩
  have yn0 : (n == 0) = true := by simp [xn0]
  by_cases xm2 : m = 2
  rotate_left
  ·
    have ym2 : ((m : Int) == 2) = false := by simp; omega
    have HV : Hid (nodeOK 9 n t m = false) := by unfold Hid; simp [nodeOK, xn0, xm2]
    have HCT := Lib.hid CT; have HCN := Lib.hid CN; have HCA := Lib.hid CA; have HCI := Lib.hid CI; have HCJ := Lib.hid CJ
    clear CT CN CA CI CJ xn0 xm2
    go_enter Try.func165, Try.ntmps165
    go_wp2_with (first | (go_at_call 96; refine (HCT.out _).mono ?_; rintro r w1 ⟨rfl, hb1⟩) | (go_at_call 171; refine (HCN.out _).mono ?_; rintro r w1 ⟨rfl, hb1⟩) | (go_at_call 197; refine (HCA.out _).mono ?_; rintro r w1 ⟨rfl, hb1⟩))
    go_ret
    first | exact ⟨ret_bool HV.out.symm, (Later.rfl' _).alloc _⟩ | exact ⟨ret_bool HV.out.symm, ((Later.rfl' _).alloc _).trans hb1⟩
  have ym2 : ((m : Int) == 2) = true := by simp [xm2]
  rcases Bool.eq_false_or_eq_true (validName t) with xvn | xvn
  rotate_left
  ·
    rw [xvn] at CN
    have HV : Hid (nodeOK 9 n t m = false) := by unfold Hid; simp [nodeOK, xn0, xm2, xvn]
    have HCT := Lib.hid CT; have HCN := Lib.hid CN; have HCA := Lib.hid CA; have HCI := Lib.hid CI; have HCJ := Lib.hid CJ
    clear CT CN CA CI CJ xn0 xm2 xvn
    go_enter Try.func165, Try.ntmps165
    go_wp2_with (first | (go_at_call 96; refine (HCT.out _).mono ?_; rintro r w1 ⟨rfl, hb1⟩) | (go_at_call 171; refine (HCN.out _).mono ?_; rintro r w1 ⟨rfl, hb1⟩) | (go_at_call 197; refine (HCA.out _).mono ?_; rintro r w1 ⟨rfl, hb1⟩))
    go_ret
    first | exact ⟨ret_bool HV.out.symm, (Later.rfl' _).alloc _⟩ | exact ⟨ret_bool HV.out.symm, ((Later.rfl' _).alloc _).trans hb1⟩
  rw [xvn] at CN
  have HV : Hid (nodeOK 9 n t m = true) := by unfold Hid; simp [nodeOK, xn0, xm2, xvn]
  have HCT := Lib.hid CT; have HCN := Lib.hid CN; have HCA := Lib.hid CA; have HCI := Lib.hid CI; have HCJ := Lib.hid CJ
  clear CT CN CA CI CJ xn0 xm2 xvn
  go_enter Try.func165, Try.ntmps165
  go_wp2_with (first | (go_at_call 96; refine (HCT.out _).mono ?_; rintro r w1 ⟨rfl, hb1⟩) | (go_at_call 171; refine (HCN.out _).mono ?_; rintro r w1 ⟨rfl, hb1⟩) | (go_at_call 197; refine (HCA.out _).mono ?_; rintro r w1 ⟨rfl, hb1⟩))
  go_ret
  first | exact ⟨ret_bool HV.out.symm, (Later.rfl' _).alloc _⟩ | exact ⟨ret_bool HV.out.symm, ((Later.rfl' _).alloc _).trans hb1⟩
set_option maxHeartbeats 1000000 in
theorem specl10Node (k n : Int) (t : ByteArray) (A : Option Addr) (m c : Nat) (w : World) (ht : t.size ≤ maxLen) (hm : m ≤ 9223372036854775807) : Calls Try.prog 165 #[.agg #[.int .i64 k, .int .i64 n, .string t, .slice A m c]] w fun r w' => r = .returned (.bool (nodeOK k n t m)) ∧ Later w w' := by
  rcases kind_ways k with rfl | rfl | rfl | rfl | rfl | rfl | rfl | rfl | rfl | hk
  · exact specl10Node_1 n t A m c w ht hm
  · exact specl10Node_2 n t A m c w ht hm
  · exact specl10Node_3 n t A m c w ht hm
  · exact specl10Node_4 n t A m c w ht hm
  · exact specl10Node_5 n t A m c w ht hm
  · exact specl10Node_6 n t A m c w ht hm
  · exact specl10Node_7 n t A m c w ht hm
  · exact specl10Node_8 n t A m c w ht hm
  · exact specl10Node_9 n t A m c w ht hm
  · have HV := Lib.hid (node_other (n := n) (t := t) (m := m) hk)
    rcases hk with hk | hk
    all_goals
      go_enter Try.func165, Try.ntmps165
      go_wp2_with fail
      go_ret
      exact ⟨ret_bool HV.out.symm, (Later.rfl' _).alloc _⟩

set_option maxHeartbeats 1000000 in
theorem implisNode_1 (n : Int) (t : ByteArray) (A : Option Addr) (m c : Nat) (w : World) (ht : t.size ≤ maxLen) (hm : m ≤ 9223372036854775807) : Calls Try.prog 163 #[.agg #[.int .i64 1, .int .i64 n, .string t, .slice A m c]] w fun r w' => r = .returned (.bool (nodeOK 1 n t m)) ∧ Later w w' := by
  have CT := fun W => implIsValidText t W ht
  have CN := fun W => implIsValidName t W ht
  have CA := fun W => implArgumentCount t W ht
  have CI := fun W => In_Try.f68 n 0 1000000000 W
  have CJ := fun W => In_Try.f68 n 1 5 W
  rcases Bool.eq_false_or_eq_true (inB n 0 1000000000) with xin1 | xin1
  rotate_left
  ·
    rw [xin1] at CI
    have HV : Hid (nodeOK 1 n t m = false) := by unfold Hid; simp [nodeOK, xin1]
    have HCT := Lib.hid CT; have HCN := Lib.hid CN; have HCA := Lib.hid CA; have HCI := Lib.hid CI; have HCJ := Lib.hid CJ
    clear CT CN CA CI CJ xin1
    go_enter Try.func163, Try.ntmps163
    go_wp2_with (first | (go_at_call 67; refine (HCT.out _).mono ?_; rintro r w1 ⟨rfl, hb1⟩) | (go_at_call 168; refine (HCN.out _).mono ?_; rintro r w1 ⟨rfl, hb1⟩) | (go_at_call 61; refine (HCA.out _).mono ?_; rintro r w1 ⟨rfl, hb1⟩) | (go_at_call 68; refine (HCI.out _).mono ?_; rintro r w1 ⟨rfl, rfl⟩))
    go_ret
    first | exact ⟨ret_bool HV.out.symm, (Later.rfl' _).alloc _⟩ | exact ⟨ret_bool HV.out.symm, ((Later.rfl' _).alloc _).trans hb1⟩
  rw [xin1] at CI
  rcases Bool.eq_false_or_eq_true t.toList.isEmpty with xte | xte
  rotate_left
  ·
    have yte : t.toList.isEmpty = false := xte
    have HV : Hid (nodeOK 1 n t m = false) := by unfold Hid; simp [nodeOK, xin1, xte]
    have HCT := Lib.hid CT; have HCN := Lib.hid CN; have HCA := Lib.hid CA; have HCI := Lib.hid CI; have HCJ := Lib.hid CJ
    clear CT CN CA CI CJ xin1 xte
    go_enter Try.func163, Try.ntmps163
    go_wp2_with (first | (go_at_call 67; refine (HCT.out _).mono ?_; rintro r w1 ⟨rfl, hb1⟩) | (go_at_call 168; refine (HCN.out _).mono ?_; rintro r w1 ⟨rfl, hb1⟩) | (go_at_call 61; refine (HCA.out _).mono ?_; rintro r w1 ⟨rfl, hb1⟩) | (go_at_call 68; refine (HCI.out _).mono ?_; rintro r w1 ⟨rfl, rfl⟩))
    go_ret
    first | exact ⟨ret_bool HV.out.symm, (Later.rfl' _).alloc _⟩ | exact ⟨ret_bool HV.out.symm, ((Later.rfl' _).alloc _).trans hb1⟩
  have yte : t.toList.isEmpty = true := xte
  by_cases xm0 : m = 0
  rotate_left
  ·
    have ym0 : ((m : Int) == 0) = false := by simp; omega
    have HV : Hid (nodeOK 1 n t m = false) := by unfold Hid; simp [nodeOK, xin1, xte, xm0]
    have HCT := Lib.hid CT; have HCN := Lib.hid CN; have HCA := Lib.hid CA; have HCI := Lib.hid CI; have HCJ := Lib.hid CJ
    clear CT CN CA CI CJ xin1 xte xm0
    go_enter Try.func163, Try.ntmps163
    go_wp2_with (first | (go_at_call 67; refine (HCT.out _).mono ?_; rintro r w1 ⟨rfl, hb1⟩) | (go_at_call 168; refine (HCN.out _).mono ?_; rintro r w1 ⟨rfl, hb1⟩) | (go_at_call 61; refine (HCA.out _).mono ?_; rintro r w1 ⟨rfl, hb1⟩) | (go_at_call 68; refine (HCI.out _).mono ?_; rintro r w1 ⟨rfl, rfl⟩))
    go_ret
    first | exact ⟨ret_bool HV.out.symm, (Later.rfl' _).alloc _⟩ | exact ⟨ret_bool HV.out.symm, ((Later.rfl' _).alloc _).trans hb1⟩
  have ym0 : ((m : Int) == 0) = true := by simp [xm0]
  have HV : Hid (nodeOK 1 n t m = true) := by unfold Hid; simp [nodeOK, xin1, xte, xm0]
  have HCT := Lib.hid CT; have HCN := Lib.hid CN; have HCA := Lib.hid CA; have HCI := Lib.hid CI; have HCJ := Lib.hid CJ
  clear CT CN CA CI CJ xin1 xte xm0
  go_enter Try.func163, Try.ntmps163
  go_wp2_with (first | (go_at_call 67; refine (HCT.out _).mono ?_; rintro r w1 ⟨rfl, hb1⟩) | (go_at_call 168; refine (HCN.out _).mono ?_; rintro r w1 ⟨rfl, hb1⟩) | (go_at_call 61; refine (HCA.out _).mono ?_; rintro r w1 ⟨rfl, hb1⟩) | (go_at_call 68; refine (HCI.out _).mono ?_; rintro r w1 ⟨rfl, rfl⟩))
  go_ret
  first | exact ⟨ret_bool HV.out.symm, (Later.rfl' _).alloc _⟩ | exact ⟨ret_bool HV.out.symm, ((Later.rfl' _).alloc _).trans hb1⟩
set_option maxHeartbeats 1000000 in
theorem implisNode_2 (n : Int) (t : ByteArray) (A : Option Addr) (m c : Nat) (w : World) (ht : t.size ≤ maxLen) (hm : m ≤ 9223372036854775807) : Calls Try.prog 163 #[.agg #[.int .i64 2, .int .i64 n, .string t, .slice A m c]] w fun r w' => r = .returned (.bool (nodeOK 2 n t m)) ∧ Later w w' := by
  have CT := fun W => implIsValidText t W ht
  have CN := fun W => implIsValidName t W ht
  have CA := fun W => implArgumentCount t W ht
  have CI := fun W => In_Try.f68 n 0 1000000000 W
  have CJ := fun W => In_Try.f68 n 1 5 W
  by_cases xn0 : n = 0
  rotate_left
  ·
    have yn0 : (n == 0) = false := by simp; omega
    have HV : Hid (nodeOK 2 n t m = false) := by unfold Hid; simp [nodeOK, xn0]
    have HCT := Lib.hid CT; have HCN := Lib.hid CN; have HCA := Lib.hid CA; have HCI := Lib.hid CI; have HCJ := Lib.hid CJ
    clear CT CN CA CI CJ xn0
    go_enter Try.func163, Try.ntmps163
    go_wp2_with (first | (go_at_call 67; refine (HCT.out _).mono ?_; rintro r w1 ⟨rfl, hb1⟩) | (go_at_call 168; refine (HCN.out _).mono ?_; rintro r w1 ⟨rfl, hb1⟩) | (go_at_call 61; refine (HCA.out _).mono ?_; rintro r w1 ⟨rfl, hb1⟩))
    go_ret
    first | exact ⟨ret_bool HV.out.symm, (Later.rfl' _).alloc _⟩ | exact ⟨ret_bool HV.out.symm, ((Later.rfl' _).alloc _).trans hb1⟩
  have yn0 : (n == 0) = true := by simp [xn0]
  rcases Bool.eq_false_or_eq_true (validText t) with xvt | xvt
  rotate_left
  ·
    rw [xvt] at CT
    have HV : Hid (nodeOK 2 n t m = false) := by unfold Hid; simp [nodeOK, xn0, xvt]
    have HCT := Lib.hid CT; have HCN := Lib.hid CN; have HCA := Lib.hid CA; have HCI := Lib.hid CI; have HCJ := Lib.hid CJ
    clear CT CN CA CI CJ xn0 xvt
    go_enter Try.func163, Try.ntmps163
    go_wp2_with (first | (go_at_call 67; refine (HCT.out _).mono ?_; rintro r w1 ⟨rfl, hb1⟩) | (go_at_call 168; refine (HCN.out _).mono ?_; rintro r w1 ⟨rfl, hb1⟩) | (go_at_call 61; refine (HCA.out _).mono ?_; rintro r w1 ⟨rfl, hb1⟩))
    go_ret
    first | exact ⟨ret_bool HV.out.symm, (Later.rfl' _).alloc _⟩ | exact ⟨ret_bool HV.out.symm, ((Later.rfl' _).alloc _).trans hb1⟩
  rw [xvt] at CT
  by_cases xm0 : m = 0
  rotate_left
  ·
    have ym0 : ((m : Int) == 0) = false := by simp; omega
    have HV : Hid (nodeOK 2 n t m = false) := by unfold Hid; simp [nodeOK, xn0, xvt, xm0]
    have HCT := Lib.hid CT; have HCN := Lib.hid CN; have HCA := Lib.hid CA; have HCI := Lib.hid CI; have HCJ := Lib.hid CJ
    clear CT CN CA CI CJ xn0 xvt xm0
    go_enter Try.func163, Try.ntmps163
    go_wp2_with (first | (go_at_call 67; refine (HCT.out _).mono ?_; rintro r w1 ⟨rfl, hb1⟩) | (go_at_call 168; refine (HCN.out _).mono ?_; rintro r w1 ⟨rfl, hb1⟩) | (go_at_call 61; refine (HCA.out _).mono ?_; rintro r w1 ⟨rfl, hb1⟩))
    go_ret
    first | exact ⟨ret_bool HV.out.symm, (Later.rfl' _).alloc _⟩ | exact ⟨ret_bool HV.out.symm, ((Later.rfl' _).alloc _).trans hb1⟩
  have ym0 : ((m : Int) == 0) = true := by simp [xm0]
  have HV : Hid (nodeOK 2 n t m = true) := by unfold Hid; simp [nodeOK, xn0, xvt, xm0]
  have HCT := Lib.hid CT; have HCN := Lib.hid CN; have HCA := Lib.hid CA; have HCI := Lib.hid CI; have HCJ := Lib.hid CJ
  clear CT CN CA CI CJ xn0 xvt xm0
  go_enter Try.func163, Try.ntmps163
  go_wp2_with (first | (go_at_call 67; refine (HCT.out _).mono ?_; rintro r w1 ⟨rfl, hb1⟩) | (go_at_call 168; refine (HCN.out _).mono ?_; rintro r w1 ⟨rfl, hb1⟩) | (go_at_call 61; refine (HCA.out _).mono ?_; rintro r w1 ⟨rfl, hb1⟩))
  go_ret
  first | exact ⟨ret_bool HV.out.symm, (Later.rfl' _).alloc _⟩ | exact ⟨ret_bool HV.out.symm, ((Later.rfl' _).alloc _).trans hb1⟩
set_option maxHeartbeats 1000000 in
theorem implisNode_3 (n : Int) (t : ByteArray) (A : Option Addr) (m c : Nat) (w : World) (ht : t.size ≤ maxLen) (hm : m ≤ 9223372036854775807) : Calls Try.prog 163 #[.agg #[.int .i64 3, .int .i64 n, .string t, .slice A m c]] w fun r w' => r = .returned (.bool (nodeOK 3 n t m)) ∧ Later w w' := by
  have CT := fun W => implIsValidText t W ht
  have CN := fun W => implIsValidName t W ht
  have CA := fun W => implArgumentCount t W ht
  have CI := fun W => In_Try.f68 n 0 1000000000 W
  have CJ := fun W => In_Try.f68 n 1 5 W
  by_cases xn0 : n = 0
  rotate_left
  ·
    have yn0 : (n == 0) = false := by simp; omega
    have HV : Hid (nodeOK 3 n t m = false) := by unfold Hid; simp [nodeOK, xn0]
    have HCT := Lib.hid CT; have HCN := Lib.hid CN; have HCA := Lib.hid CA; have HCI := Lib.hid CI; have HCJ := Lib.hid CJ
    clear CT CN CA CI CJ xn0
    go_enter Try.func163, Try.ntmps163
    go_wp2_with (first | (go_at_call 67; refine (HCT.out _).mono ?_; rintro r w1 ⟨rfl, hb1⟩) | (go_at_call 168; refine (HCN.out _).mono ?_; rintro r w1 ⟨rfl, hb1⟩) | (go_at_call 61; refine (HCA.out _).mono ?_; rintro r w1 ⟨rfl, hb1⟩))
    go_ret
    first | exact ⟨ret_bool HV.out.symm, (Later.rfl' _).alloc _⟩ | exact ⟨ret_bool HV.out.symm, ((Later.rfl' _).alloc _).trans hb1⟩
  have yn0 : (n == 0) = true := by simp [xn0]
  rcases Bool.eq_false_or_eq_true (validName t) with xvn | xvn
  rotate_left
  ·
    rw [xvn] at CN
    have HV : Hid (nodeOK 3 n t m = false) := by unfold Hid; simp [nodeOK, xn0, xvn]
    have HCT := Lib.hid CT; have HCN := Lib.hid CN; have HCA := Lib.hid CA; have HCI := Lib.hid CI; have HCJ := Lib.hid CJ
    clear CT CN CA CI CJ xn0 xvn
    go_enter Try.func163, Try.ntmps163
    go_wp2_with (first | (go_at_call 67; refine (HCT.out _).mono ?_; rintro r w1 ⟨rfl, hb1⟩) | (go_at_call 168; refine (HCN.out _).mono ?_; rintro r w1 ⟨rfl, hb1⟩) | (go_at_call 61; refine (HCA.out _).mono ?_; rintro r w1 ⟨rfl, hb1⟩))
    go_ret
    first | exact ⟨ret_bool HV.out.symm, (Later.rfl' _).alloc _⟩ | exact ⟨ret_bool HV.out.symm, ((Later.rfl' _).alloc _).trans hb1⟩
  rw [xvn] at CN
  by_cases xm0 : m = 0
  rotate_left
  ·
    have ym0 : ((m : Int) == 0) = false := by simp; omega
    have HV : Hid (nodeOK 3 n t m = false) := by unfold Hid; simp [nodeOK, xn0, xvn, xm0]
    have HCT := Lib.hid CT; have HCN := Lib.hid CN; have HCA := Lib.hid CA; have HCI := Lib.hid CI; have HCJ := Lib.hid CJ
    clear CT CN CA CI CJ xn0 xvn xm0
    go_enter Try.func163, Try.ntmps163
    go_wp2_with (first | (go_at_call 67; refine (HCT.out _).mono ?_; rintro r w1 ⟨rfl, hb1⟩) | (go_at_call 168; refine (HCN.out _).mono ?_; rintro r w1 ⟨rfl, hb1⟩) | (go_at_call 61; refine (HCA.out _).mono ?_; rintro r w1 ⟨rfl, hb1⟩))
    go_ret
    first | exact ⟨ret_bool HV.out.symm, (Later.rfl' _).alloc _⟩ | exact ⟨ret_bool HV.out.symm, ((Later.rfl' _).alloc _).trans hb1⟩
  have ym0 : ((m : Int) == 0) = true := by simp [xm0]
  have HV : Hid (nodeOK 3 n t m = true) := by unfold Hid; simp [nodeOK, xn0, xvn, xm0]
  have HCT := Lib.hid CT; have HCN := Lib.hid CN; have HCA := Lib.hid CA; have HCI := Lib.hid CI; have HCJ := Lib.hid CJ
  clear CT CN CA CI CJ xn0 xvn xm0
  go_enter Try.func163, Try.ntmps163
  go_wp2_with (first | (go_at_call 67; refine (HCT.out _).mono ?_; rintro r w1 ⟨rfl, hb1⟩) | (go_at_call 168; refine (HCN.out _).mono ?_; rintro r w1 ⟨rfl, hb1⟩) | (go_at_call 61; refine (HCA.out _).mono ?_; rintro r w1 ⟨rfl, hb1⟩))
  go_ret
  first | exact ⟨ret_bool HV.out.symm, (Later.rfl' _).alloc _⟩ | exact ⟨ret_bool HV.out.symm, ((Later.rfl' _).alloc _).trans hb1⟩
set_option maxHeartbeats 1000000 in
theorem implisNode_4 (n : Int) (t : ByteArray) (A : Option Addr) (m c : Nat) (w : World) (ht : t.size ≤ maxLen) (hm : m ≤ 9223372036854775807) : Calls Try.prog 163 #[.agg #[.int .i64 4, .int .i64 n, .string t, .slice A m c]] w fun r w' => r = .returned (.bool (nodeOK 4 n t m)) ∧ Later w w' := by
  have CT := fun W => implIsValidText t W ht
  have CN := fun W => implIsValidName t W ht
  have CA := fun W => implArgumentCount t W ht
  have CI := fun W => In_Try.f68 n 0 1000000000 W
  have CJ := fun W => In_Try.f68 n 1 5 W
  by_cases xn0 : n = 0
  rotate_left
  ·
    have yn0 : (n == 0) = false := by simp; omega
    have HV : Hid (nodeOK 4 n t m = false) := by unfold Hid; simp [nodeOK, xn0]
    have HCT := Lib.hid CT; have HCN := Lib.hid CN; have HCA := Lib.hid CA; have HCI := Lib.hid CI; have HCJ := Lib.hid CJ
    clear CT CN CA CI CJ xn0
    go_enter Try.func163, Try.ntmps163
    go_wp2_with (first | (go_at_call 67; refine (HCT.out _).mono ?_; rintro r w1 ⟨rfl, hb1⟩) | (go_at_call 168; refine (HCN.out _).mono ?_; rintro r w1 ⟨rfl, hb1⟩) | (go_at_call 61; refine (HCA.out _).mono ?_; rintro r w1 ⟨rfl, hb1⟩))
    go_ret
    first | exact ⟨ret_bool HV.out.symm, (Later.rfl' _).alloc _⟩ | exact ⟨ret_bool HV.out.symm, ((Later.rfl' _).alloc _).trans hb1⟩
  have yn0 : (n == 0) = true := by simp [xn0]
  rcases Bool.eq_false_or_eq_true t.toList.isEmpty with xte | xte
  rotate_left
  ·
    have yte : t.toList.isEmpty = false := xte
    have HV : Hid (nodeOK 4 n t m = false) := by unfold Hid; simp [nodeOK, xn0, xte]
    have HCT := Lib.hid CT; have HCN := Lib.hid CN; have HCA := Lib.hid CA; have HCI := Lib.hid CI; have HCJ := Lib.hid CJ
    clear CT CN CA CI CJ xn0 xte
    go_enter Try.func163, Try.ntmps163
    go_wp2_with (first | (go_at_call 67; refine (HCT.out _).mono ?_; rintro r w1 ⟨rfl, hb1⟩) | (go_at_call 168; refine (HCN.out _).mono ?_; rintro r w1 ⟨rfl, hb1⟩) | (go_at_call 61; refine (HCA.out _).mono ?_; rintro r w1 ⟨rfl, hb1⟩))
    go_ret
    first | exact ⟨ret_bool HV.out.symm, (Later.rfl' _).alloc _⟩ | exact ⟨ret_bool HV.out.symm, ((Later.rfl' _).alloc _).trans hb1⟩
  have yte : t.toList.isEmpty = true := xte
  by_cases xm8 : m ≤ 8
  rotate_left
  ·
    have ym8 : (8 : Int) < (m : Int) := by omega
    have zm8 : decide ((m : Int) ≤ 8) = false := by simp; omega
    have HV : Hid (nodeOK 4 n t m = false) := by unfold Hid; simp [nodeOK, xn0, xte, xm8]
    have HCT := Lib.hid CT; have HCN := Lib.hid CN; have HCA := Lib.hid CA; have HCI := Lib.hid CI; have HCJ := Lib.hid CJ
    clear CT CN CA CI CJ xn0 xte xm8
    go_enter Try.func163, Try.ntmps163
    go_wp2_with (first | (go_at_call 67; refine (HCT.out _).mono ?_; rintro r w1 ⟨rfl, hb1⟩) | (go_at_call 168; refine (HCN.out _).mono ?_; rintro r w1 ⟨rfl, hb1⟩) | (go_at_call 61; refine (HCA.out _).mono ?_; rintro r w1 ⟨rfl, hb1⟩))
    go_ret
    first | exact ⟨ret_bool HV.out.symm, (Later.rfl' _).alloc _⟩ | exact ⟨ret_bool HV.out.symm, ((Later.rfl' _).alloc _).trans hb1⟩
  have ym8 : (m : Int) ≤ 8 := by omega
  have HV : Hid (nodeOK 4 n t m = true) := by unfold Hid; simp [nodeOK, xn0, xte, xm8]
  have HCT := Lib.hid CT; have HCN := Lib.hid CN; have HCA := Lib.hid CA; have HCI := Lib.hid CI; have HCJ := Lib.hid CJ
  clear CT CN CA CI CJ xn0 xte xm8
  go_enter Try.func163, Try.ntmps163
  go_wp2_with (first | (go_at_call 67; refine (HCT.out _).mono ?_; rintro r w1 ⟨rfl, hb1⟩) | (go_at_call 168; refine (HCN.out _).mono ?_; rintro r w1 ⟨rfl, hb1⟩) | (go_at_call 61; refine (HCA.out _).mono ?_; rintro r w1 ⟨rfl, hb1⟩))
  go_ret
  first | exact ⟨ret_bool HV.out.symm, (Later.rfl' _).alloc _⟩ | exact ⟨ret_bool HV.out.symm, ((Later.rfl' _).alloc _).trans hb1⟩
set_option maxHeartbeats 1000000 in
theorem implisNode_5 (n : Int) (t : ByteArray) (A : Option Addr) (m c : Nat) (w : World) (ht : t.size ≤ maxLen) (hm : m ≤ 9223372036854775807) : Calls Try.prog 163 #[.agg #[.int .i64 5, .int .i64 n, .string t, .slice A m c]] w fun r w' => r = .returned (.bool (nodeOK 5 n t m)) ∧ Later w w' := by
  have CT := fun W => implIsValidText t W ht
  have CN := fun W => implIsValidName t W ht
  have CA := fun W => implArgumentCount t W ht
  have CI := fun W => In_Try.f68 n 0 1000000000 W
  have CJ := fun W => In_Try.f68 n 1 5 W
  by_cases xn0 : n = 0
  rotate_left
  ·
    have yn0 : (n == 0) = false := by simp; omega
    have HV : Hid (nodeOK 5 n t m = false) := by unfold Hid; simp [nodeOK, xn0]
    have HCT := Lib.hid CT; have HCN := Lib.hid CN; have HCA := Lib.hid CA; have HCI := Lib.hid CI; have HCJ := Lib.hid CJ
    clear CT CN CA CI CJ xn0
    go_enter Try.func163, Try.ntmps163
    go_wp2_with (first | (go_at_call 67; refine (HCT.out _).mono ?_; rintro r w1 ⟨rfl, hb1⟩) | (go_at_call 168; refine (HCN.out _).mono ?_; rintro r w1 ⟨rfl, hb1⟩) | (go_at_call 61; refine (HCA.out _).mono ?_; rintro r w1 ⟨rfl, hb1⟩))
    go_ret
    first | exact ⟨ret_bool HV.out.symm, (Later.rfl' _).alloc _⟩ | exact ⟨ret_bool HV.out.symm, ((Later.rfl' _).alloc _).trans hb1⟩
  have yn0 : (n == 0) = true := by simp [xn0]
  by_cases xac : (m : Int) = argCount t
  rotate_left
  ·
    have yac : ((m : Int) == argCount t) = false := by simp; omega
    have HV : Hid (nodeOK 5 n t m = false) := by unfold Hid; simp [nodeOK, xn0, xac]
    have HCT := Lib.hid CT; have HCN := Lib.hid CN; have HCA := Lib.hid CA; have HCI := Lib.hid CI; have HCJ := Lib.hid CJ
    clear CT CN CA CI CJ xn0 xac
    go_enter Try.func163, Try.ntmps163
    go_wp2_with (first | (go_at_call 67; refine (HCT.out _).mono ?_; rintro r w1 ⟨rfl, hb1⟩) | (go_at_call 168; refine (HCN.out _).mono ?_; rintro r w1 ⟨rfl, hb1⟩) | (go_at_call 61; refine (HCA.out _).mono ?_; rintro r w1 ⟨rfl, hb1⟩))
    go_ret
    first | exact ⟨ret_bool HV.out.symm, (Later.rfl' _).alloc _⟩ | exact ⟨ret_bool HV.out.symm, ((Later.rfl' _).alloc _).trans hb1⟩
  have yac : ((m : Int) == argCount t) = true := by simp [xac]
  have HV : Hid (nodeOK 5 n t m = true) := by unfold Hid; simp [nodeOK, xn0, xac]
  have HCT := Lib.hid CT; have HCN := Lib.hid CN; have HCA := Lib.hid CA; have HCI := Lib.hid CI; have HCJ := Lib.hid CJ
  clear CT CN CA CI CJ xn0 xac
  go_enter Try.func163, Try.ntmps163
  go_wp2_with (first | (go_at_call 67; refine (HCT.out _).mono ?_; rintro r w1 ⟨rfl, hb1⟩) | (go_at_call 168; refine (HCN.out _).mono ?_; rintro r w1 ⟨rfl, hb1⟩) | (go_at_call 61; refine (HCA.out _).mono ?_; rintro r w1 ⟨rfl, hb1⟩))
  go_ret
  first | exact ⟨ret_bool HV.out.symm, (Later.rfl' _).alloc _⟩ | exact ⟨ret_bool HV.out.symm, ((Later.rfl' _).alloc _).trans hb1⟩
set_option maxHeartbeats 1000000 in
theorem implisNode_6 (n : Int) (t : ByteArray) (A : Option Addr) (m c : Nat) (w : World) (ht : t.size ≤ maxLen) (hm : m ≤ 9223372036854775807) : Calls Try.prog 163 #[.agg #[.int .i64 6, .int .i64 n, .string t, .slice A m c]] w fun r w' => r = .returned (.bool (nodeOK 6 n t m)) ∧ Later w w' := by
  have CT := fun W => implIsValidText t W ht
  have CN := fun W => implIsValidName t W ht
  have CA := fun W => implArgumentCount t W ht
  have CI := fun W => In_Try.f68 n 0 1000000000 W
  have CJ := fun W => In_Try.f68 n 1 5 W
  rcases Bool.eq_false_or_eq_true (inB n 1 5) with xin6 | xin6
  rotate_left
  ·
    rw [xin6] at CJ
    have HV : Hid (nodeOK 6 n t m = false) := by unfold Hid; simp [nodeOK, xin6]
    have HCT := Lib.hid CT; have HCN := Lib.hid CN; have HCA := Lib.hid CA; have HCI := Lib.hid CI; have HCJ := Lib.hid CJ
    clear CT CN CA CI CJ xin6
    go_enter Try.func163, Try.ntmps163
    go_wp2_with (first | (go_at_call 67; refine (HCT.out _).mono ?_; rintro r w1 ⟨rfl, hb1⟩) | (go_at_call 168; refine (HCN.out _).mono ?_; rintro r w1 ⟨rfl, hb1⟩) | (go_at_call 61; refine (HCA.out _).mono ?_; rintro r w1 ⟨rfl, hb1⟩) | (go_at_call 68; refine (HCJ.out _).mono ?_; rintro r w1 ⟨rfl, rfl⟩))
    go_ret
    first | exact ⟨ret_bool HV.out.symm, (Later.rfl' _).alloc _⟩ | exact ⟨ret_bool HV.out.symm, ((Later.rfl' _).alloc _).trans hb1⟩
  rw [xin6] at CJ
  rcases Bool.eq_false_or_eq_true t.toList.isEmpty with xte | xte
  rotate_left
  ·
    have yte : t.toList.isEmpty = false := xte
    have HV : Hid (nodeOK 6 n t m = false) := by unfold Hid; simp [nodeOK, xin6, xte]
    have HCT := Lib.hid CT; have HCN := Lib.hid CN; have HCA := Lib.hid CA; have HCI := Lib.hid CI; have HCJ := Lib.hid CJ
    clear CT CN CA CI CJ xin6 xte
    go_enter Try.func163, Try.ntmps163
    go_wp2_with (first | (go_at_call 67; refine (HCT.out _).mono ?_; rintro r w1 ⟨rfl, hb1⟩) | (go_at_call 168; refine (HCN.out _).mono ?_; rintro r w1 ⟨rfl, hb1⟩) | (go_at_call 61; refine (HCA.out _).mono ?_; rintro r w1 ⟨rfl, hb1⟩) | (go_at_call 68; refine (HCJ.out _).mono ?_; rintro r w1 ⟨rfl, rfl⟩))
    go_ret
    first | exact ⟨ret_bool HV.out.symm, (Later.rfl' _).alloc _⟩ | exact ⟨ret_bool HV.out.symm, ((Later.rfl' _).alloc _).trans hb1⟩
  have yte : t.toList.isEmpty = true := xte
  by_cases xm2 : m = 2
  rotate_left
  ·
    have ym2 : ((m : Int) == 2) = false := by simp; omega
    have HV : Hid (nodeOK 6 n t m = false) := by unfold Hid; simp [nodeOK, xin6, xte, xm2]
    have HCT := Lib.hid CT; have HCN := Lib.hid CN; have HCA := Lib.hid CA; have HCI := Lib.hid CI; have HCJ := Lib.hid CJ
    clear CT CN CA CI CJ xin6 xte xm2
    go_enter Try.func163, Try.ntmps163
    go_wp2_with (first | (go_at_call 67; refine (HCT.out _).mono ?_; rintro r w1 ⟨rfl, hb1⟩) | (go_at_call 168; refine (HCN.out _).mono ?_; rintro r w1 ⟨rfl, hb1⟩) | (go_at_call 61; refine (HCA.out _).mono ?_; rintro r w1 ⟨rfl, hb1⟩) | (go_at_call 68; refine (HCJ.out _).mono ?_; rintro r w1 ⟨rfl, rfl⟩))
    go_ret
    first | exact ⟨ret_bool HV.out.symm, (Later.rfl' _).alloc _⟩ | exact ⟨ret_bool HV.out.symm, ((Later.rfl' _).alloc _).trans hb1⟩
  have ym2 : ((m : Int) == 2) = true := by simp [xm2]
  have HV : Hid (nodeOK 6 n t m = true) := by unfold Hid; simp [nodeOK, xin6, xte, xm2]
  have HCT := Lib.hid CT; have HCN := Lib.hid CN; have HCA := Lib.hid CA; have HCI := Lib.hid CI; have HCJ := Lib.hid CJ
  clear CT CN CA CI CJ xin6 xte xm2
  go_enter Try.func163, Try.ntmps163
  go_wp2_with (first | (go_at_call 67; refine (HCT.out _).mono ?_; rintro r w1 ⟨rfl, hb1⟩) | (go_at_call 168; refine (HCN.out _).mono ?_; rintro r w1 ⟨rfl, hb1⟩) | (go_at_call 61; refine (HCA.out _).mono ?_; rintro r w1 ⟨rfl, hb1⟩) | (go_at_call 68; refine (HCJ.out _).mono ?_; rintro r w1 ⟨rfl, rfl⟩))
  go_ret
  first | exact ⟨ret_bool HV.out.symm, (Later.rfl' _).alloc _⟩ | exact ⟨ret_bool HV.out.symm, ((Later.rfl' _).alloc _).trans hb1⟩
set_option maxHeartbeats 1000000 in
theorem implisNode_7 (n : Int) (t : ByteArray) (A : Option Addr) (m c : Nat) (w : World) (ht : t.size ≤ maxLen) (hm : m ≤ 9223372036854775807) : Calls Try.prog 163 #[.agg #[.int .i64 7, .int .i64 n, .string t, .slice A m c]] w fun r w' => r = .returned (.bool (nodeOK 7 n t m)) ∧ Later w w' := by
  have CT := fun W => implIsValidText t W ht
  have CN := fun W => implIsValidName t W ht
  have CA := fun W => implArgumentCount t W ht
  have CI := fun W => In_Try.f68 n 0 1000000000 W
  have CJ := fun W => In_Try.f68 n 1 5 W
  by_cases xn0 : n = 0
  rotate_left
  ·
    have yn0 : (n == 0) = false := by simp; omega
    have HV : Hid (nodeOK 7 n t m = false) := by unfold Hid; simp [nodeOK, xn0]
    have HCT := Lib.hid CT; have HCN := Lib.hid CN; have HCA := Lib.hid CA; have HCI := Lib.hid CI; have HCJ := Lib.hid CJ
    clear CT CN CA CI CJ xn0
    go_enter Try.func163, Try.ntmps163
    go_wp2_with (first | (go_at_call 67; refine (HCT.out _).mono ?_; rintro r w1 ⟨rfl, hb1⟩) | (go_at_call 168; refine (HCN.out _).mono ?_; rintro r w1 ⟨rfl, hb1⟩) | (go_at_call 61; refine (HCA.out _).mono ?_; rintro r w1 ⟨rfl, hb1⟩))
    go_ret
    first | exact ⟨ret_bool HV.out.symm, (Later.rfl' _).alloc _⟩ | exact ⟨ret_bool HV.out.symm, ((Later.rfl' _).alloc _).trans hb1⟩
  have yn0 : (n == 0) = true := by simp [xn0]
  rcases Bool.eq_false_or_eq_true (validName t) with xvn | xvn
  rotate_left
  ·
    rw [xvn] at CN
    have HV : Hid (nodeOK 7 n t m = false) := by unfold Hid; simp [nodeOK, xn0, xvn]
    have HCT := Lib.hid CT; have HCN := Lib.hid CN; have HCA := Lib.hid CA; have HCI := Lib.hid CI; have HCJ := Lib.hid CJ
    clear CT CN CA CI CJ xn0 xvn
    go_enter Try.func163, Try.ntmps163
    go_wp2_with (first | (go_at_call 67; refine (HCT.out _).mono ?_; rintro r w1 ⟨rfl, hb1⟩) | (go_at_call 168; refine (HCN.out _).mono ?_; rintro r w1 ⟨rfl, hb1⟩) | (go_at_call 61; refine (HCA.out _).mono ?_; rintro r w1 ⟨rfl, hb1⟩))
    go_ret
    first | exact ⟨ret_bool HV.out.symm, (Later.rfl' _).alloc _⟩ | exact ⟨ret_bool HV.out.symm, ((Later.rfl' _).alloc _).trans hb1⟩
  rw [xvn] at CN
  by_cases xm2 : m = 2
  rotate_left
  ·
    have ym2 : ((m : Int) == 2) = false := by simp; omega
    have HV : Hid (nodeOK 7 n t m = false) := by unfold Hid; simp [nodeOK, xn0, xvn, xm2]
    have HCT := Lib.hid CT; have HCN := Lib.hid CN; have HCA := Lib.hid CA; have HCI := Lib.hid CI; have HCJ := Lib.hid CJ
    clear CT CN CA CI CJ xn0 xvn xm2
    go_enter Try.func163, Try.ntmps163
    go_wp2_with (first | (go_at_call 67; refine (HCT.out _).mono ?_; rintro r w1 ⟨rfl, hb1⟩) | (go_at_call 168; refine (HCN.out _).mono ?_; rintro r w1 ⟨rfl, hb1⟩) | (go_at_call 61; refine (HCA.out _).mono ?_; rintro r w1 ⟨rfl, hb1⟩))
    go_ret
    first | exact ⟨ret_bool HV.out.symm, (Later.rfl' _).alloc _⟩ | exact ⟨ret_bool HV.out.symm, ((Later.rfl' _).alloc _).trans hb1⟩
  have ym2 : ((m : Int) == 2) = true := by simp [xm2]
  have HV : Hid (nodeOK 7 n t m = true) := by unfold Hid; simp [nodeOK, xn0, xvn, xm2]
  have HCT := Lib.hid CT; have HCN := Lib.hid CN; have HCA := Lib.hid CA; have HCI := Lib.hid CI; have HCJ := Lib.hid CJ
  clear CT CN CA CI CJ xn0 xvn xm2
  go_enter Try.func163, Try.ntmps163
  go_wp2_with (first | (go_at_call 67; refine (HCT.out _).mono ?_; rintro r w1 ⟨rfl, hb1⟩) | (go_at_call 168; refine (HCN.out _).mono ?_; rintro r w1 ⟨rfl, hb1⟩) | (go_at_call 61; refine (HCA.out _).mono ?_; rintro r w1 ⟨rfl, hb1⟩))
  go_ret
  first | exact ⟨ret_bool HV.out.symm, (Later.rfl' _).alloc _⟩ | exact ⟨ret_bool HV.out.symm, ((Later.rfl' _).alloc _).trans hb1⟩
set_option maxHeartbeats 1000000 in
theorem implisNode_8 (n : Int) (t : ByteArray) (A : Option Addr) (m c : Nat) (w : World) (ht : t.size ≤ maxLen) (hm : m ≤ 9223372036854775807) : Calls Try.prog 163 #[.agg #[.int .i64 8, .int .i64 n, .string t, .slice A m c]] w fun r w' => r = .returned (.bool (nodeOK 8 n t m)) ∧ Later w w' := by
  have CT := fun W => implIsValidText t W ht
  have CN := fun W => implIsValidName t W ht
  have CA := fun W => implArgumentCount t W ht
  have CI := fun W => In_Try.f68 n 0 1000000000 W
  have CJ := fun W => In_Try.f68 n 1 5 W
  by_cases xn0 : n = 0
  rotate_left
  ·
    have yn0 : (n == 0) = false := by simp; omega
    have HV : Hid (nodeOK 8 n t m = false) := by unfold Hid; simp [nodeOK, xn0]
    have HCT := Lib.hid CT; have HCN := Lib.hid CN; have HCA := Lib.hid CA; have HCI := Lib.hid CI; have HCJ := Lib.hid CJ
    clear CT CN CA CI CJ xn0
    go_enter Try.func163, Try.ntmps163
    go_wp2_with (first | (go_at_call 67; refine (HCT.out _).mono ?_; rintro r w1 ⟨rfl, hb1⟩) | (go_at_call 168; refine (HCN.out _).mono ?_; rintro r w1 ⟨rfl, hb1⟩) | (go_at_call 61; refine (HCA.out _).mono ?_; rintro r w1 ⟨rfl, hb1⟩))
    go_ret
    first | exact ⟨ret_bool HV.out.symm, (Later.rfl' _).alloc _⟩ | exact ⟨ret_bool HV.out.symm, ((Later.rfl' _).alloc _).trans hb1⟩
  have yn0 : (n == 0) = true := by simp [xn0]
  rcases Bool.eq_false_or_eq_true t.toList.isEmpty with xte | xte
  rotate_left
  ·
    have yte : t.toList.isEmpty = false := xte
    have HV : Hid (nodeOK 8 n t m = false) := by unfold Hid; simp [nodeOK, xn0, xte]
    have HCT := Lib.hid CT; have HCN := Lib.hid CN; have HCA := Lib.hid CA; have HCI := Lib.hid CI; have HCJ := Lib.hid CJ
    clear CT CN CA CI CJ xn0 xte
    go_enter Try.func163, Try.ntmps163
    go_wp2_with (first | (go_at_call 67; refine (HCT.out _).mono ?_; rintro r w1 ⟨rfl, hb1⟩) | (go_at_call 168; refine (HCN.out _).mono ?_; rintro r w1 ⟨rfl, hb1⟩) | (go_at_call 61; refine (HCA.out _).mono ?_; rintro r w1 ⟨rfl, hb1⟩))
    go_ret
    first | exact ⟨ret_bool HV.out.symm, (Later.rfl' _).alloc _⟩ | exact ⟨ret_bool HV.out.symm, ((Later.rfl' _).alloc _).trans hb1⟩
  have yte : t.toList.isEmpty = true := xte
  by_cases xm3 : m = 3
  rotate_left
  ·
    have ym3 : ((m : Int) == 3) = false := by simp; omega
    have HV : Hid (nodeOK 8 n t m = false) := by unfold Hid; simp [nodeOK, xn0, xte, xm3]
    have HCT := Lib.hid CT; have HCN := Lib.hid CN; have HCA := Lib.hid CA; have HCI := Lib.hid CI; have HCJ := Lib.hid CJ
    clear CT CN CA CI CJ xn0 xte xm3
    go_enter Try.func163, Try.ntmps163
    go_wp2_with (first | (go_at_call 67; refine (HCT.out _).mono ?_; rintro r w1 ⟨rfl, hb1⟩) | (go_at_call 168; refine (HCN.out _).mono ?_; rintro r w1 ⟨rfl, hb1⟩) | (go_at_call 61; refine (HCA.out _).mono ?_; rintro r w1 ⟨rfl, hb1⟩))
    go_ret
    first | exact ⟨ret_bool HV.out.symm, (Later.rfl' _).alloc _⟩ | exact ⟨ret_bool HV.out.symm, ((Later.rfl' _).alloc _).trans hb1⟩
  have ym3 : ((m : Int) == 3) = true := by simp [xm3]
  have HV : Hid (nodeOK 8 n t m = true) := by unfold Hid; simp [nodeOK, xn0, xte, xm3]
  have HCT := Lib.hid CT; have HCN := Lib.hid CN; have HCA := Lib.hid CA; have HCI := Lib.hid CI; have HCJ := Lib.hid CJ
  clear CT CN CA CI CJ xn0 xte xm3
  go_enter Try.func163, Try.ntmps163
  go_wp2_with (first | (go_at_call 67; refine (HCT.out _).mono ?_; rintro r w1 ⟨rfl, hb1⟩) | (go_at_call 168; refine (HCN.out _).mono ?_; rintro r w1 ⟨rfl, hb1⟩) | (go_at_call 61; refine (HCA.out _).mono ?_; rintro r w1 ⟨rfl, hb1⟩))
  go_ret
  first | exact ⟨ret_bool HV.out.symm, (Later.rfl' _).alloc _⟩ | exact ⟨ret_bool HV.out.symm, ((Later.rfl' _).alloc _).trans hb1⟩
set_option maxHeartbeats 1000000 in
theorem implisNode_9 (n : Int) (t : ByteArray) (A : Option Addr) (m c : Nat) (w : World) (ht : t.size ≤ maxLen) (hm : m ≤ 9223372036854775807) : Calls Try.prog 163 #[.agg #[.int .i64 9, .int .i64 n, .string t, .slice A m c]] w fun r w' => r = .returned (.bool (nodeOK 9 n t m)) ∧ Later w w' := by
  have CT := fun W => implIsValidText t W ht
  have CN := fun W => implIsValidName t W ht
  have CA := fun W => implArgumentCount t W ht
  have CI := fun W => In_Try.f68 n 0 1000000000 W
  have CJ := fun W => In_Try.f68 n 1 5 W
  by_cases xn0 : n = 0
  rotate_left
  ·
    have yn0 : (n == 0) = false := by simp; omega
    have HV : Hid (nodeOK 9 n t m = false) := by unfold Hid; simp [nodeOK, xn0]
    have HCT := Lib.hid CT; have HCN := Lib.hid CN; have HCA := Lib.hid CA; have HCI := Lib.hid CI; have HCJ := Lib.hid CJ
    clear CT CN CA CI CJ xn0
    go_enter Try.func163, Try.ntmps163
    go_wp2_with (first | (go_at_call 67; refine (HCT.out _).mono ?_; rintro r w1 ⟨rfl, hb1⟩) | (go_at_call 168; refine (HCN.out _).mono ?_; rintro r w1 ⟨rfl, hb1⟩) | (go_at_call 61; refine (HCA.out _).mono ?_; rintro r w1 ⟨rfl, hb1⟩))
    go_ret
    first | exact ⟨ret_bool HV.out.symm, (Later.rfl' _).alloc _⟩ | exact ⟨ret_bool HV.out.symm, ((Later.rfl' _).alloc _).trans hb1⟩
  have yn0 : (n == 0) = true := by simp [xn0]
  rcases Bool.eq_false_or_eq_true (validName t) with xvn | xvn
  rotate_left
  ·
    rw [xvn] at CN
    have HV : Hid (nodeOK 9 n t m = false) := by unfold Hid; simp [nodeOK, xn0, xvn]
    have HCT := Lib.hid CT; have HCN := Lib.hid CN; have HCA := Lib.hid CA; have HCI := Lib.hid CI; have HCJ := Lib.hid CJ
    clear CT CN CA CI CJ xn0 xvn
    go_enter Try.func163, Try.ntmps163
    go_wp2_with (first | (go_at_call 67; refine (HCT.out _).mono ?_; rintro r w1 ⟨rfl, hb1⟩) | (go_at_call 168; refine (HCN.out _).mono ?_; rintro r w1 ⟨rfl, hb1⟩) | (go_at_call 61; refine (HCA.out _).mono ?_; rintro r w1 ⟨rfl, hb1⟩))
    go_ret
    first | exact ⟨ret_bool HV.out.symm, (Later.rfl' _).alloc _⟩ | exact ⟨ret_bool HV.out.symm, ((Later.rfl' _).alloc _).trans hb1⟩
  rw [xvn] at CN
  by_cases xm2 : m = 2
  rotate_left
  ·
    have ym2 : ((m : Int) == 2) = false := by simp; omega
    have HV : Hid (nodeOK 9 n t m = false) := by unfold Hid; simp [nodeOK, xn0, xvn, xm2]
    have HCT := Lib.hid CT; have HCN := Lib.hid CN; have HCA := Lib.hid CA; have HCI := Lib.hid CI; have HCJ := Lib.hid CJ
    clear CT CN CA CI CJ xn0 xvn xm2
    go_enter Try.func163, Try.ntmps163
    go_wp2_with (first | (go_at_call 67; refine (HCT.out _).mono ?_; rintro r w1 ⟨rfl, hb1⟩) | (go_at_call 168; refine (HCN.out _).mono ?_; rintro r w1 ⟨rfl, hb1⟩) | (go_at_call 61; refine (HCA.out _).mono ?_; rintro r w1 ⟨rfl, hb1⟩))
    go_ret
    first | exact ⟨ret_bool HV.out.symm, (Later.rfl' _).alloc _⟩ | exact ⟨ret_bool HV.out.symm, ((Later.rfl' _).alloc _).trans hb1⟩
  have ym2 : ((m : Int) == 2) = true := by simp [xm2]
  have HV : Hid (nodeOK 9 n t m = true) := by unfold Hid; simp [nodeOK, xn0, xvn, xm2]
  have HCT := Lib.hid CT; have HCN := Lib.hid CN; have HCA := Lib.hid CA; have HCI := Lib.hid CI; have HCJ := Lib.hid CJ
  clear CT CN CA CI CJ xn0 xvn xm2
  go_enter Try.func163, Try.ntmps163
  go_wp2_with (first | (go_at_call 67; refine (HCT.out _).mono ?_; rintro r w1 ⟨rfl, hb1⟩) | (go_at_call 168; refine (HCN.out _).mono ?_; rintro r w1 ⟨rfl, hb1⟩) | (go_at_call 61; refine (HCA.out _).mono ?_; rintro r w1 ⟨rfl, hb1⟩))
  go_ret
  first | exact ⟨ret_bool HV.out.symm, (Later.rfl' _).alloc _⟩ | exact ⟨ret_bool HV.out.symm, ((Later.rfl' _).alloc _).trans hb1⟩
set_option maxHeartbeats 1000000 in
theorem implisNode (k n : Int) (t : ByteArray) (A : Option Addr) (m c : Nat) (w : World) (ht : t.size ≤ maxLen) (hm : m ≤ 9223372036854775807) : Calls Try.prog 163 #[.agg #[.int .i64 k, .int .i64 n, .string t, .slice A m c]] w fun r w' => r = .returned (.bool (nodeOK k n t m)) ∧ Later w w' := by
  rcases kind_ways k with rfl | rfl | rfl | rfl | rfl | rfl | rfl | rfl | rfl | hk
  · exact implisNode_1 n t A m c w ht hm
  · exact implisNode_2 n t A m c w ht hm
  · exact implisNode_3 n t A m c w ht hm
  · exact implisNode_4 n t A m c w ht hm
  · exact implisNode_5 n t A m c w ht hm
  · exact implisNode_6 n t A m c w ht hm
  · exact implisNode_7 n t A m c w ht hm
  · exact implisNode_8 n t A m c w ht hm
  · exact implisNode_9 n t A m c w ht hm
  · have HV := Lib.hid (node_other (n := n) (t := t) (m := m) hk)
    rcases hk with hk | hk
    all_goals
      go_enter Try.func163, Try.ntmps163
      go_wp2_with fail
      go_ret
      exact ⟨ret_bool HV.out.symm, (Later.rfl' _).alloc _⟩

end Go.Proofs.Ytghemlokpfipoaa
