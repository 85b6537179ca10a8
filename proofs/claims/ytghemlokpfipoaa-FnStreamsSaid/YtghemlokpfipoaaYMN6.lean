/-
  Valid values: IsValidValue of the reference: the walk. Valid values: IsValidValue of the program at a list: the walk (a). Valid values: IsValidValue of the program at a list: the walk (b). Valid values: IsValidValue of the program at a list: the walk (c). Valid values: IsValidValue of the program at a list: the walk (d). Valid values: IsValidValue of the program at a list: the walk. Valid values: IsValidValue of the program: the walk.
-/
import Derived.Test.YtghemlokpfipoaaYN5
namespace Go.Proofs.Ytghemlokpfipoaa
open Go.ChangeShapes Go.WideShapes Go.ChangeAt Go.RowKit
set_option linter.unusedVariables false
set_option linter.unusedSimpArgs false
set_option maxRecDepth 100000

set_option maxHeartbeats 4000000 in
theorem specValid : ∀ d, ValidQ 30 d := by
  refine Vl.ind fun k n s t l cl r ih hcost W S cs h => ?_
  have CL := fun W' (hW' : Later W W') => specList k n s t l cl r ih hcost W' S cs (h.later hW')
  have CT := fun W' (hW' : Later W W') => specTable k n s t l cl r W' S cs (h.later hW')
  have CD := fun W' (hW' : Later W W') => specTable k n s t l cl r W' S cs (h.later hW')
  obtain ⟨A1, c1, A2, c2, A3, c3, rfl, hb4, ⟨p1, q1⟩, ⟨p2, q2⟩, ⟨p3, q3⟩, g1, g2, g3⟩ := h.val
  have CX := fun W' => specIsValidText t W' (by simp only [maxLen]; omega)
  have CN := fun W' => specNumV n _ rfl W'
  have CS := fun W' => specNumV s _ rfl W'
  have hm1 : ∀ x, x ∈ l → Vl.cost x ≤ 1099511627776 := fun x hx => by rw [Vl.cost_mk] at hcost; have := sumN_mem Vl.cost hx; omega
  have bl : l.length ≤ 1099511627776 := by rw [Vl.cost_mk] at hcost; omega
  have bc : cl.length ≤ 1099511627776 := by rw [Vl.cost_mk] at hcost; unfold costS at hcost; omega
  have br : r.length ≤ 1099511627776 := by rw [Vl.cost_mk] at hcost; omega
  obtain ⟨q, hq⟩ : ∃ q, q = Vl.valid (.mk k n s t l cl r) := ⟨_, rfl⟩
  rw [← hq]
  rw [Vl.valid] at hq
  have hlb : (Vl.valids l && (decide (l.length ≤ 8) && decide (Vl.depths l ≤ 2))) = listB l := rfl
  rw [hlb] at hq
  clear hlb h g2 g3 hcost hb4
  obtain ⟨L, hL⟩ : ∃ L, L = l.length := ⟨_, rfl⟩
  obtain ⟨C, hC⟩ : ∃ L, L = cl.length := ⟨_, rfl⟩
  obtain ⟨R, hR⟩ : ∃ L, L = r.length := ⟨_, rfl⟩
  simp only [← hL, ← hC, ← hR] at CL CT CD hq bl bc br p1 p2 p3 g1 ⊢
  have HE := Lib.hid g1
  have HCL := Lib.hid CL; have HCT := Lib.hid CT; have HCX := Lib.hid CX; have HCN := Lib.hid CN; have HCS := Lib.hid CS; have HCD := Lib.hid CD
  have IH := Lib.hid ih; have HM := Lib.hid hm1; have HL := Lib.hid hL; have HC := Lib.hid hC; have HR := Lib.hid hR; have HQ := Lib.hid hq
  clear CL CT CX CN CS CD ih hm1 g1 hL hC hR hq
  by_cases k1 : k = 1
  · subst k1
    by_cases hL : L = 0
    rotate_left
    · have iL : (0 : Int) < (L : Int) := by omega
      have jL : ((L : Int) == 0) = false := by simpa using hL
      have HV : Hid (q = false) := by unfold Hid; rw [HQ.out]; simp [hL]
      clear hL
      go_enter Try.func30, Try.ntmps30
      go_wp2_with fail
      all_goals
        go_ret
        first | exact ⟨ret_bool (by rw [HV.out]; simp [*]), (Later.rfl' _).alloc _⟩ | exact ⟨ret_bool (by rw [HV.out]; simp [*]), ((Later.rfl' _).alloc _).trans hb1⟩ | exact ⟨ret_bool (by rw [HV.out]), (Later.rfl' _).alloc _⟩ | exact ⟨ret_bool (by rw [HV.out]), ((Later.rfl' _).alloc _).trans hb1⟩
    subst hL
    by_cases hCR : C + R = 0
    rotate_left
    · have iCR : (0 : Int) < (C : Int) + (R : Int) := by omega
      have HV : Hid (q = false) := by
        unfold Hid; rw [HQ.out]
        by_cases hz : C = 0
        · have hz2 : ¬ R = 0 := by omega
          simp [hz, hz2]
        · simp [hz]
      go_enter Try.func30, Try.ntmps30
      go_wp2_with fail
      all_goals
        go_ret
        first | exact ⟨ret_bool (by rw [HV.out]; simp [*]), (Later.rfl' _).alloc _⟩ | exact ⟨ret_bool (by rw [HV.out]; simp [*]), ((Later.rfl' _).alloc _).trans hb1⟩ | exact ⟨ret_bool (by rw [HV.out]), (Later.rfl' _).alloc _⟩ | exact ⟨ret_bool (by rw [HV.out]), ((Later.rfl' _).alloc _).trans hb1⟩
    obtain ⟨rfl, rfl⟩ : C = 0 ∧ R = 0 := by omega
    by_cases ht : t.toList = []
    rotate_left
    · have jt : (t.toList == []) = false := by simpa using ht
      have HV : Hid (q = false) := by unfold Hid; rw [HQ.out]; simp [ht]
      go_enter Try.func30, Try.ntmps30
      go_wp2_with fail
      all_goals
        go_ret
        first | exact ⟨ret_bool (by rw [HV.out]; simp [*]), (Later.rfl' _).alloc _⟩ | exact ⟨ret_bool (by rw [HV.out]; simp [*]), ((Later.rfl' _).alloc _).trans hb1⟩ | exact ⟨ret_bool (by rw [HV.out]), (Later.rfl' _).alloc _⟩ | exact ⟨ret_bool (by rw [HV.out]), ((Later.rfl' _).alloc _).trans hb1⟩
    skip
    by_cases hs : s = 0
    rotate_left
    · have js : (s != 0) = true := by simpa using hs
      have js' : (s == 0) = false := by simpa using hs
      have HV : Hid (q = false) := by unfold Hid; rw [HQ.out]; simp [ht, hs]
      clear hs
      go_enter Try.func30, Try.ntmps30
      go_wp2_with fail
      all_goals
        go_ret
        first | exact ⟨ret_bool (by rw [HV.out]; simp [*]), (Later.rfl' _).alloc _⟩ | exact ⟨ret_bool (by rw [HV.out]; simp [*]), ((Later.rfl' _).alloc _).trans hb1⟩ | exact ⟨ret_bool (by rw [HV.out]), (Later.rfl' _).alloc _⟩ | exact ⟨ret_bool (by rw [HV.out]), ((Later.rfl' _).alloc _).trans hb1⟩
    subst hs
    have HV : Hid (q = numV n) := by unfold Hid; rw [HQ.out]; simp [ht]
    go_enter Try.func30, Try.ntmps30
    go_wp2_with (go_at_call 95; refine (HCN.out _).mono ?_; rintro e w1 ⟨rfl, rfl⟩)
    all_goals
      go_ret
      first | exact ⟨ret_bool (by rw [HV.out]; simp [*]), (Later.rfl' _).alloc _⟩ | exact ⟨ret_bool (by rw [HV.out]; simp [*]), ((Later.rfl' _).alloc _).trans hb1⟩ | exact ⟨ret_bool (by rw [HV.out]), (Later.rfl' _).alloc _⟩ | exact ⟨ret_bool (by rw [HV.out]), ((Later.rfl' _).alloc _).trans hb1⟩
  by_cases k2 : k = 2
  · subst k2
    clear k1
    by_cases hL : L = 0
    rotate_left
    · have iL : (0 : Int) < (L : Int) := by omega
      have jL : ((L : Int) == 0) = false := by simpa using hL
      have HV : Hid (q = false) := by unfold Hid; rw [HQ.out]; simp [hL]
      clear hL
      go_enter Try.func30, Try.ntmps30
      go_wp2_with fail
      all_goals
        go_ret
        first | exact ⟨ret_bool (by rw [HV.out]; simp [*]), (Later.rfl' _).alloc _⟩ | exact ⟨ret_bool (by rw [HV.out]; simp [*]), ((Later.rfl' _).alloc _).trans hb1⟩ | exact ⟨ret_bool (by rw [HV.out]), (Later.rfl' _).alloc _⟩ | exact ⟨ret_bool (by rw [HV.out]), ((Later.rfl' _).alloc _).trans hb1⟩
    subst hL
    by_cases hCR : C + R = 0
    rotate_left
    · have iCR : (0 : Int) < (C : Int) + (R : Int) := by omega
      have HV : Hid (q = false) := by
        unfold Hid; rw [HQ.out]
        by_cases hz : C = 0
        · have hz2 : ¬ R = 0 := by omega
          simp [hz, hz2]
        · simp [hz]
      go_enter Try.func30, Try.ntmps30
      go_wp2_with fail
      all_goals
        go_ret
        first | exact ⟨ret_bool (by rw [HV.out]; simp [*]), (Later.rfl' _).alloc _⟩ | exact ⟨ret_bool (by rw [HV.out]; simp [*]), ((Later.rfl' _).alloc _).trans hb1⟩ | exact ⟨ret_bool (by rw [HV.out]), (Later.rfl' _).alloc _⟩ | exact ⟨ret_bool (by rw [HV.out]), ((Later.rfl' _).alloc _).trans hb1⟩
    obtain ⟨rfl, rfl⟩ : C = 0 ∧ R = 0 := by omega
    by_cases hs : s = 0
    rotate_left
    · have js : (s != 0) = true := by simpa using hs
      have js' : (s == 0) = false := by simpa using hs
      have HV : Hid (q = false) := by unfold Hid; rw [HQ.out]; simp [hs]
      clear hs
      go_enter Try.func30, Try.ntmps30
      go_wp2_with fail
      all_goals
        go_ret
        first | exact ⟨ret_bool (by rw [HV.out]; simp [*]), (Later.rfl' _).alloc _⟩ | exact ⟨ret_bool (by rw [HV.out]; simp [*]), ((Later.rfl' _).alloc _).trans hb1⟩ | exact ⟨ret_bool (by rw [HV.out]), (Later.rfl' _).alloc _⟩ | exact ⟨ret_bool (by rw [HV.out]), ((Later.rfl' _).alloc _).trans hb1⟩
    subst hs
    by_cases hn : n = 0
    rotate_left
    · have jn : (n == 0) = false := by simpa using hn
      have HV : Hid (q = false) := by unfold Hid; rw [HQ.out]; simp [hn]
      clear hn
      go_enter Try.func30, Try.ntmps30
      go_wp2_with fail
      all_goals
        go_ret
        first | exact ⟨ret_bool (by rw [HV.out]; simp [*]), (Later.rfl' _).alloc _⟩ | exact ⟨ret_bool (by rw [HV.out]; simp [*]), ((Later.rfl' _).alloc _).trans hb1⟩ | exact ⟨ret_bool (by rw [HV.out]), (Later.rfl' _).alloc _⟩ | exact ⟨ret_bool (by rw [HV.out]), ((Later.rfl' _).alloc _).trans hb1⟩
    subst hn
    have HV : Hid (q = validText t) := by unfold Hid; rw [HQ.out]; simp
    go_enter Try.func30, Try.ntmps30
    go_wp2_with (go_at_call 96; refine (HCX.out _).mono ?_; rintro e w1 ⟨rfl, hb1⟩)
    all_goals
      go_ret
      first | exact ⟨ret_bool (by rw [HV.out]; simp [*]), (Later.rfl' _).alloc _⟩ | exact ⟨ret_bool (by rw [HV.out]; simp [*]), ((Later.rfl' _).alloc _).trans hb1⟩ | exact ⟨ret_bool (by rw [HV.out]), (Later.rfl' _).alloc _⟩ | exact ⟨ret_bool (by rw [HV.out]), ((Later.rfl' _).alloc _).trans hb1⟩
  by_cases k3 : k = 3
  · subst k3
    clear k1
    clear k2
    by_cases hCR : C + R = 0
    rotate_left
    · have iCR : (0 : Int) < (C : Int) + (R : Int) := by omega
      have HV : Hid (q = false) := by
        unfold Hid; rw [HQ.out]
        by_cases hz : C = 0
        · have hz2 : ¬ R = 0 := by omega
          simp [hz, hz2]
        · simp [hz]
      go_enter Try.func30, Try.ntmps30
      go_wp2_with fail
      all_goals
        go_ret
        first | exact ⟨ret_bool (by rw [HV.out]; simp [*]), (Later.rfl' _).alloc _⟩ | exact ⟨ret_bool (by rw [HV.out]; simp [*]), ((Later.rfl' _).alloc _).trans hb1⟩ | exact ⟨ret_bool (by rw [HV.out]), (Later.rfl' _).alloc _⟩ | exact ⟨ret_bool (by rw [HV.out]), ((Later.rfl' _).alloc _).trans hb1⟩
    obtain ⟨rfl, rfl⟩ : C = 0 ∧ R = 0 := by omega
    by_cases ht : t.toList = []
    rotate_left
    · have jt : (t.toList == []) = false := by simpa using ht
      have HV : Hid (q = false) := by unfold Hid; rw [HQ.out]; simp [ht]
      go_enter Try.func30, Try.ntmps30
      go_wp2_with fail
      all_goals
        go_ret
        first | exact ⟨ret_bool (by rw [HV.out]; simp [*]), (Later.rfl' _).alloc _⟩ | exact ⟨ret_bool (by rw [HV.out]; simp [*]), ((Later.rfl' _).alloc _).trans hb1⟩ | exact ⟨ret_bool (by rw [HV.out]), (Later.rfl' _).alloc _⟩ | exact ⟨ret_bool (by rw [HV.out]), ((Later.rfl' _).alloc _).trans hb1⟩
    skip
    by_cases hs : s = 0
    rotate_left
    · have js : (s != 0) = true := by simpa using hs
      have js' : (s == 0) = false := by simpa using hs
      have HV : Hid (q = false) := by unfold Hid; rw [HQ.out]; simp [ht, hs]
      clear hs
      go_enter Try.func30, Try.ntmps30
      go_wp2_with fail
      all_goals
        go_ret
        first | exact ⟨ret_bool (by rw [HV.out]; simp [*]), (Later.rfl' _).alloc _⟩ | exact ⟨ret_bool (by rw [HV.out]; simp [*]), ((Later.rfl' _).alloc _).trans hb1⟩ | exact ⟨ret_bool (by rw [HV.out]), (Later.rfl' _).alloc _⟩ | exact ⟨ret_bool (by rw [HV.out]), ((Later.rfl' _).alloc _).trans hb1⟩
    subst hs
    by_cases hn : n = 0
    rotate_left
    · have jn : (n == 0) = false := by simpa using hn
      have HV : Hid (q = false) := by unfold Hid; rw [HQ.out]; simp [ht, hn]
      clear hn
      go_enter Try.func30, Try.ntmps30
      go_wp2_with fail
      all_goals
        go_ret
        first | exact ⟨ret_bool (by rw [HV.out]; simp [*]), (Later.rfl' _).alloc _⟩ | exact ⟨ret_bool (by rw [HV.out]; simp [*]), ((Later.rfl' _).alloc _).trans hb1⟩ | exact ⟨ret_bool (by rw [HV.out]), (Later.rfl' _).alloc _⟩ | exact ⟨ret_bool (by rw [HV.out]), ((Later.rfl' _).alloc _).trans hb1⟩
    subst hn
    have HV : Hid (q = listB l) := by unfold Hid; rw [HQ.out]; simp [ht]
    go_enter Try.func30, Try.ntmps30
    go_wp2_with (go_at_call 97; refine (HCL.out _ ((Later.rfl' _).alloc _)).mono ?_; rintro e w1 ⟨rfl, hb1⟩)
    all_goals
      go_ret
      first | exact ⟨ret_bool (by rw [HV.out]; simp [*]), (Later.rfl' _).alloc _⟩ | exact ⟨ret_bool (by rw [HV.out]; simp [*]), ((Later.rfl' _).alloc _).trans hb1⟩ | exact ⟨ret_bool (by rw [HV.out]), (Later.rfl' _).alloc _⟩ | exact ⟨ret_bool (by rw [HV.out]), ((Later.rfl' _).alloc _).trans hb1⟩
  by_cases k4 : k = 4
  · subst k4
    clear k1
    clear k2
    clear k3
    by_cases hL : L = 0
    rotate_left
    · have iL : (0 : Int) < (L : Int) := by omega
      have jL : ((L : Int) == 0) = false := by simpa using hL
      have HV : Hid (q = false) := by unfold Hid; rw [HQ.out]; simp [hL]
      clear hL
      go_enter Try.func30, Try.ntmps30
      go_wp2_with fail
      all_goals
        go_ret
        first | exact ⟨ret_bool (by rw [HV.out]; simp [*]), (Later.rfl' _).alloc _⟩ | exact ⟨ret_bool (by rw [HV.out]; simp [*]), ((Later.rfl' _).alloc _).trans hb1⟩ | exact ⟨ret_bool (by rw [HV.out]), (Later.rfl' _).alloc _⟩ | exact ⟨ret_bool (by rw [HV.out]), ((Later.rfl' _).alloc _).trans hb1⟩
    subst hL
    by_cases hCR : C + R = 0
    rotate_left
    · have iCR : (0 : Int) < (C : Int) + (R : Int) := by omega
      have HV : Hid (q = false) := by
        unfold Hid; rw [HQ.out]
        by_cases hz : C = 0
        · have hz2 : ¬ R = 0 := by omega
          simp [hz, hz2]
        · simp [hz]
      go_enter Try.func30, Try.ntmps30
      go_wp2_with fail
      all_goals
        go_ret
        first | exact ⟨ret_bool (by rw [HV.out]; simp [*]), (Later.rfl' _).alloc _⟩ | exact ⟨ret_bool (by rw [HV.out]; simp [*]), ((Later.rfl' _).alloc _).trans hb1⟩ | exact ⟨ret_bool (by rw [HV.out]), (Later.rfl' _).alloc _⟩ | exact ⟨ret_bool (by rw [HV.out]), ((Later.rfl' _).alloc _).trans hb1⟩
    obtain ⟨rfl, rfl⟩ : C = 0 ∧ R = 0 := by omega
    by_cases ht : t.toList = []
    rotate_left
    · have jt : (t.toList == []) = false := by simpa using ht
      have HV : Hid (q = false) := by unfold Hid; rw [HQ.out]; simp [ht]
      go_enter Try.func30, Try.ntmps30
      go_wp2_with fail
      all_goals
        go_ret
        first | exact ⟨ret_bool (by rw [HV.out]; simp [*]), (Later.rfl' _).alloc _⟩ | exact ⟨ret_bool (by rw [HV.out]; simp [*]), ((Later.rfl' _).alloc _).trans hb1⟩ | exact ⟨ret_bool (by rw [HV.out]), (Later.rfl' _).alloc _⟩ | exact ⟨ret_bool (by rw [HV.out]), ((Later.rfl' _).alloc _).trans hb1⟩
    skip
    have HV : Hid (q = (numV n && numV s)) := by unfold Hid; rw [HQ.out]; simp [ht]
    go_enter Try.func30, Try.ntmps30
    go_wp2_with (first | (go_at_call 95; (with_reducible refine (HCN.out _).mono ?_); rintro e w1 ⟨rfl, rfl⟩) | (go_at_call 95; (with_reducible refine (HCS.out _).mono ?_); rintro e w1 ⟨rfl, rfl⟩))
    all_goals
      go_ret
      first | exact ⟨ret_bool (by rw [HV.out]; simp [*]), (Later.rfl' _).alloc _⟩ | exact ⟨ret_bool (by rw [HV.out]; simp [*]), ((Later.rfl' _).alloc _).trans hb1⟩ | exact ⟨ret_bool (by rw [HV.out]), (Later.rfl' _).alloc _⟩ | exact ⟨ret_bool (by rw [HV.out]), ((Later.rfl' _).alloc _).trans hb1⟩
  by_cases k5 : k = 5
  · subst k5
    clear k1
    clear k2
    clear k3
    clear k4
    by_cases hL : L = 0
    rotate_left
    · have iL : (0 : Int) < (L : Int) := by omega
      have jL : ((L : Int) == 0) = false := by simpa using hL
      have HV : Hid (q = false) := by unfold Hid; rw [HQ.out]; simp [hL]
      clear hL
      go_enter Try.func30, Try.ntmps30
      go_wp2_with fail
      all_goals
        go_ret
        first | exact ⟨ret_bool (by rw [HV.out]; simp [*]), (Later.rfl' _).alloc _⟩ | exact ⟨ret_bool (by rw [HV.out]; simp [*]), ((Later.rfl' _).alloc _).trans hb1⟩ | exact ⟨ret_bool (by rw [HV.out]), (Later.rfl' _).alloc _⟩ | exact ⟨ret_bool (by rw [HV.out]), ((Later.rfl' _).alloc _).trans hb1⟩
    subst hL
    by_cases ht : t.toList = []
    rotate_left
    · have jt : (t.toList == []) = false := by simpa using ht
      have HV : Hid (q = false) := by unfold Hid; rw [HQ.out]; simp [ht]
      go_enter Try.func30, Try.ntmps30
      go_wp2_with fail
      all_goals
        go_ret
        first | exact ⟨ret_bool (by rw [HV.out]; simp [*]), (Later.rfl' _).alloc _⟩ | exact ⟨ret_bool (by rw [HV.out]; simp [*]), ((Later.rfl' _).alloc _).trans hb1⟩ | exact ⟨ret_bool (by rw [HV.out]), (Later.rfl' _).alloc _⟩ | exact ⟨ret_bool (by rw [HV.out]), ((Later.rfl' _).alloc _).trans hb1⟩
    skip
    by_cases hs : s = 0
    rotate_left
    · have js : (s != 0) = true := by simpa using hs
      have js' : (s == 0) = false := by simpa using hs
      have HV : Hid (q = false) := by unfold Hid; rw [HQ.out]; simp [ht, hs]
      clear hs
      go_enter Try.func30, Try.ntmps30
      go_wp2_with fail
      all_goals
        go_ret
        first | exact ⟨ret_bool (by rw [HV.out]; simp [*]), (Later.rfl' _).alloc _⟩ | exact ⟨ret_bool (by rw [HV.out]; simp [*]), ((Later.rfl' _).alloc _).trans hb1⟩ | exact ⟨ret_bool (by rw [HV.out]), (Later.rfl' _).alloc _⟩ | exact ⟨ret_bool (by rw [HV.out]), ((Later.rfl' _).alloc _).trans hb1⟩
    subst hs
    by_cases hn : n = 0
    rotate_left
    · have jn : (n == 0) = false := by simpa using hn
      have HV : Hid (q = false) := by unfold Hid; rw [HQ.out]; simp [ht, hn]
      clear hn
      go_enter Try.func30, Try.ntmps30
      go_wp2_with fail
      all_goals
        go_ret
        first | exact ⟨ret_bool (by rw [HV.out]; simp [*]), (Later.rfl' _).alloc _⟩ | exact ⟨ret_bool (by rw [HV.out]; simp [*]), ((Later.rfl' _).alloc _).trans hb1⟩ | exact ⟨ret_bool (by rw [HV.out]), (Later.rfl' _).alloc _⟩ | exact ⟨ret_bool (by rw [HV.out]), ((Later.rfl' _).alloc _).trans hb1⟩
    subst hn
    have HV : Hid (q = tableB cl r) := by unfold Hid; rw [HQ.out]; simp [ht]
    go_enter Try.func30, Try.ntmps30
    go_wp2_with (go_at_call 98; refine (HCT.out _ ((Later.rfl' _).alloc _)).mono ?_; rintro e w1 ⟨rfl, hb1⟩)
    all_goals
      go_ret
      first | exact ⟨ret_bool (by rw [HV.out]; simp [*]), (Later.rfl' _).alloc _⟩ | exact ⟨ret_bool (by rw [HV.out]; simp [*]), ((Later.rfl' _).alloc _).trans hb1⟩ | exact ⟨ret_bool (by rw [HV.out]), (Later.rfl' _).alloc _⟩ | exact ⟨ret_bool (by rw [HV.out]), ((Later.rfl' _).alloc _).trans hb1⟩
  by_cases k6 : k = 6
  · subst k6
    clear k1
    clear k2
    clear k3
    clear k4
    clear k5
    by_cases hL : L = 0
    rotate_left
    · have iL : (0 : Int) < (L : Int) := by omega
      have jL : ((L : Int) == 0) = false := by simpa using hL
      have HV : Hid (q = false) := by unfold Hid; rw [HQ.out]; simp [hL]
      clear hL
      go_enter Try.func30, Try.ntmps30
      go_wp2_with fail
      all_goals
        go_ret
        first | exact ⟨ret_bool (by rw [HV.out]; simp [*]), (Later.rfl' _).alloc _⟩ | exact ⟨ret_bool (by rw [HV.out]; simp [*]), ((Later.rfl' _).alloc _).trans hb1⟩ | exact ⟨ret_bool (by rw [HV.out]), (Later.rfl' _).alloc _⟩ | exact ⟨ret_bool (by rw [HV.out]), ((Later.rfl' _).alloc _).trans hb1⟩
    subst hL
    by_cases hCR : C + R = 0
    rotate_left
    · have iCR : (0 : Int) < (C : Int) + (R : Int) := by omega
      have HV : Hid (q = false) := by
        unfold Hid; rw [HQ.out]
        by_cases hz : C = 0
        · have hz2 : ¬ R = 0 := by omega
          simp [hz, hz2]
        · simp [hz]
      go_enter Try.func30, Try.ntmps30
      go_wp2_with fail
      all_goals
        go_ret
        first | exact ⟨ret_bool (by rw [HV.out]; simp [*]), (Later.rfl' _).alloc _⟩ | exact ⟨ret_bool (by rw [HV.out]; simp [*]), ((Later.rfl' _).alloc _).trans hb1⟩ | exact ⟨ret_bool (by rw [HV.out]), (Later.rfl' _).alloc _⟩ | exact ⟨ret_bool (by rw [HV.out]), ((Later.rfl' _).alloc _).trans hb1⟩
    obtain ⟨rfl, rfl⟩ : C = 0 ∧ R = 0 := by omega
    by_cases ht : t.toList = []
    rotate_left
    · have jt : (t.toList == []) = false := by simpa using ht
      have HV : Hid (q = false) := by unfold Hid; rw [HQ.out]; simp [ht]
      go_enter Try.func30, Try.ntmps30
      go_wp2_with fail
      all_goals
        go_ret
        first | exact ⟨ret_bool (by rw [HV.out]; simp [*]), (Later.rfl' _).alloc _⟩ | exact ⟨ret_bool (by rw [HV.out]; simp [*]), ((Later.rfl' _).alloc _).trans hb1⟩ | exact ⟨ret_bool (by rw [HV.out]), (Later.rfl' _).alloc _⟩ | exact ⟨ret_bool (by rw [HV.out]), ((Later.rfl' _).alloc _).trans hb1⟩
    skip
    by_cases hs : s = 0
    rotate_left
    · have js : (s != 0) = true := by simpa using hs
      have js' : (s == 0) = false := by simpa using hs
      have HV : Hid (q = false) := by unfold Hid; rw [HQ.out]; simp [ht, hs]
      clear hs
      go_enter Try.func30, Try.ntmps30
      go_wp2_with fail
      all_goals
        go_ret
        first | exact ⟨ret_bool (by rw [HV.out]; simp [*]), (Later.rfl' _).alloc _⟩ | exact ⟨ret_bool (by rw [HV.out]; simp [*]), ((Later.rfl' _).alloc _).trans hb1⟩ | exact ⟨ret_bool (by rw [HV.out]), (Later.rfl' _).alloc _⟩ | exact ⟨ret_bool (by rw [HV.out]), ((Later.rfl' _).alloc _).trans hb1⟩
    subst hs
    have HV : Hid (q = (decide (1 ≤ n) && decide (n ≤ 8))) := by unfold Hid; rw [HQ.out]; simp [ht]
    go_enter Try.func30, Try.ntmps30
    go_wp2_with (go_at_call 99; refine (specIn n 1 8 _ rfl _).mono ?_; rintro e w1 ⟨rfl, rfl⟩)
    all_goals
      go_ret
      first | exact ⟨ret_bool (by rw [HV.out]; simp [*]), (Later.rfl' _).alloc _⟩ | exact ⟨ret_bool (by rw [HV.out]; simp [*]), ((Later.rfl' _).alloc _).trans hb1⟩ | exact ⟨ret_bool (by rw [HV.out]), (Later.rfl' _).alloc _⟩ | exact ⟨ret_bool (by rw [HV.out]), ((Later.rfl' _).alloc _).trans hb1⟩
  have hq := HQ.out
  simp only [k1, k2, k3, k4, k5, k6, if_false] at hq
  have HV := Lib.hid hq
  have e1 : (k == 1) = false := by simpa using k1
  have d1 : (k != 1) = true := by simpa using k1
  clear k1
  have e2 : (k == 2) = false := by simpa using k2
  have d2 : (k != 2) = true := by simpa using k2
  clear k2
  have e3 : (k == 3) = false := by simpa using k3
  have d3 : (k != 3) = true := by simpa using k3
  clear k3
  have e4 : (k == 4) = false := by simpa using k4
  have d4 : (k != 4) = true := by simpa using k4
  clear k4
  have e5 : (k == 5) = false := by simpa using k5
  have d5 : (k != 5) = true := by simpa using k5
  clear k5
  have e6 : (k == 6) = false := by simpa using k6
  have d6 : (k != 6) = true := by simpa using k6
  clear k6
  clear hq
  go_enter Try.func30, Try.ntmps30
  go_wp2_with fail
  all_goals
    go_ret
    exact ⟨ret_bool HV.out.symm, (Later.rfl' _).alloc _⟩
end Go.Proofs.Ytghemlokpfipoaa
namespace Go.Proofs.Ytghemlokpfipoaa
open Go.ChangeShapes Go.WideShapes Go.ChangeAt Go.RowKit
set_option linter.unusedVariables false
set_option linter.unusedSimpArgs false
set_option maxRecDepth 100000

set_option maxHeartbeats 4000000 in
theorem implValid3a (k n s : Int) (t : ByteArray) (l : List Vl) (cl : List ByteArray) (r : List Rw) (ih : ∀ x, x ∈ l → ValidQ 18 x) (k3 : k = 3) (hxL : ¬ l.length = 0) : ValidQ 18 (.mk k n s t l cl r) := by
  intro hcost W S cs h
  have CD := fun W' (hW' : Later W W') => implDepthOf (.mk k n s t l cl r) hcost W' S cs (h.later hW')
  rw [Vl.depth] at CD
  have CT := fun W' (hW' : Later W W') => implTable k n s t l cl r W' S cs (h.later hW')
  have CL := fun W' (hW' : Later W W') => implTable k n s t l cl r W' S cs (h.later hW')
  obtain ⟨A1, c1, A2, c2, A3, c3, rfl, hb4, ⟨p1, q1⟩, ⟨p2, q2⟩, ⟨p3, q3⟩, g1, g2, g3⟩ := h.val
  have CX := fun W' => implIsValidText t W' (by simp only [maxLen]; omega)
  have CN := fun W' => implNumV n _ rfl W'
  have CS := fun W' => implNumV s _ rfl W'
  have hm1 : ∀ x, x ∈ l → Vl.cost x ≤ 1099511627776 := fun x hx => by rw [Vl.cost_mk] at hcost; have := sumN_mem Vl.cost hx; omega
  have bl : l.length ≤ 1099511627776 := by rw [Vl.cost_mk] at hcost; omega
  have bc : cl.length ≤ 1099511627776 := by rw [Vl.cost_mk] at hcost; unfold costS at hcost; omega
  have br : r.length ≤ 1099511627776 := by rw [Vl.cost_mk] at hcost; omega
  obtain ⟨q, hq⟩ : ∃ q, q = Vl.valid (.mk k n s t l cl r) := ⟨_, rfl⟩
  rw [← hq]
  rw [Vl.valid] at hq
  have hlb : (Vl.valids l && (decide (l.length ≤ 8) && decide (Vl.depths l ≤ 2))) = listB l := rfl
  rw [hlb] at hq
  clear hlb h g2 g3 hcost hb4
  obtain ⟨L, hL⟩ : ∃ L, L = l.length := ⟨_, rfl⟩
  obtain ⟨C, hC⟩ : ∃ L, L = cl.length := ⟨_, rfl⟩
  obtain ⟨R, hR⟩ : ∃ L, L = r.length := ⟨_, rfl⟩
  simp only [← hL, ← hC, ← hR] at CL CT CD hq bl bc br p1 p2 p3 g1 hxL ⊢
  have HE := Lib.hid g1
  have HCL := Lib.hid CL; have HCT := Lib.hid CT; have HCX := Lib.hid CX; have HCN := Lib.hid CN; have HCS := Lib.hid CS; have HCD := Lib.hid CD
  have IH := Lib.hid ih; have HM := Lib.hid hm1; have HL := Lib.hid hL; have HC := Lib.hid hC; have HR := Lib.hid hR; have HQ := Lib.hid hq
  clear CL CT CX CN CS CD ih hm1 g1 hL hC hR hq
  subst k3
  obtain ⟨D, hD⟩ : ∃ D, D = Vl.depths l := ⟨_, rfl⟩
  have CD := HCD.out
  simp only [← hD] at CD
  replace HCD := Lib.hid CD
  have HD := Lib.hid hD
  clear CD hD HCL HCT HCX HCN HCS
  have jL : ((L : Int) == 0) = false := by simpa using hxL
  clear hxL
  go_enter Try.func18, Try.ntmps18
  go_wp2_with fail
  go_loopw [126] (fun i wr => ∃ j : Nat, j ≤ L ∧ i = .int .i64 j ∧ (∀ k, (hk : k < l.length) → k < j → elemB l[k] = true ∧ l[k].valid = true) ∧ Later (W.alloc (.cells #[.int .i64 3, .int .i64 n, .int .i64 s, .string t, .slice A1 L c1, .slice A2 C c2, .slice A3 R c3] 28)) wr) (fun i _ => L - (intOf i).toNat)
  case atStart => exact ⟨0, Nat.zero_le _, rfl, fun k _ h => absurd h (by omega), Later.rfl' _⟩
  case round =>
    obtain ⟨j, hj, rfl, hall, hw⟩ := hrel
    have B := (box_alloc W _ _).later hw
    have a0 := B.cell (j := 0) rfl
    have a1 := B.cell (j := 1) rfl
    have a2 := B.cell (j := 2) rfl
    have a3 := B.cell (j := 3) rfl
    have a4 := B.cell (j := 4) rfl
    have a5 := B.cell (j := 5) rfl
    have a6 := B.cell (j := 6) rfl
    have hz : W.heap.size < wr.heap.size := B.lt
    have HA := Lib.hid hall
    have HW := Lib.hid hw
    have HLW := Lib.hid (((Later.rfl' W).alloc _).trans hw)
    clear B
    by_cases hlt : j < L
    · have hlt' : j < l.length := by rw [← HL.out]; exact hlt
      have HE' := HE.out
      rw [HL.out] at HE'
      obtain ⟨b, off, y0, y1, y2, y3, B1, n1, d1, B2, n2, d2, B3, n3, d3, rfl, hb, _, hx, e0, e1, e2, e3, e4, e5, e6⟩ := (HE'.later HLW.out).valAt hlt'
      have C := fun W' (hW' : Later wr W') => IH.out l[j] (List.getElem_mem hlt') (HM.out _ (List.getElem_mem hlt')) W' S _ (hx.later hW')
      have hel : elemB l[j] = (decide (y0 = 1) || (decide (y0 = 2) || decide (y0 = 3))) := by
        obtain ⟨xk, xn, xs, xt, xl, xc, xr, he⟩ := Vl.shape l[j]
        rw [he] at hx ⊢
        obtain ⟨_, _, _, _, _, _, ee, _⟩ := hx.val
        simp only [List.cons.injEq, Value.int.injEq, true_and] at ee
        rw [ee.1]
        rfl
      obtain ⟨q2, hq2⟩ : ∃ q, q = l[j].valid := ⟨_, rfl⟩
      simp only [← hq2] at C
      have HQ2 := Lib.hid hq2
      have HCC := Lib.hid C
      have HEL := Lib.hid hel
      clear hx C hq2 hall hw hel HE' a0 a1 a2 a3 a4 a5 a6 hz
      by_cases ky : y0 = 1
      · have f1 : (y0 != 1) = false := by simp [ky]
        have HE1 : Hid (elemB l[j] = true) := by unfold Hid; rw [HEL.out]; simp [ky]
        clear ky
        cases q2 with
        | false =>
          have HF : Hid (q = false) := by unfold Hid; rw [HQ.out]; unfold listB; rw [valids_false (l := l) (k := j) hlt' (by rw [HE1.out, ← HQ2.out]; rfl)]; simp
          go_wp2_with fail
          refine (HCC.out _ ((Later.rfl' _).alloc _)).mono ?_; rintro e w1 ⟨rfl, hb1⟩
          go_wp2_with fail
          go_ret
          exact ⟨ret_bool HF.out.symm, (HLW.out.alloc _).trans hb1⟩
        | true =>
          go_wp2_with fail
          refine (HCC.out _ ((Later.rfl' _).alloc _)).mono ?_; rintro e w1 ⟨rfl, hb1⟩
          go_wp2_with fail
          go_roundw
          case rel => exact ⟨j + 1, by omega, by go_num, fun k hk hkj => if e : k = j then by subst e; exact ⟨HE1.out, HQ2.out.symm⟩ else HA.out k hk (by omega), HW.out.trans (((Later.rfl' _).alloc _).trans hb1)⟩
          case measure => simp [intOf]; omega
      have ky1 := ky
      clear ky
      by_cases ky : y0 = 2
      · have f1 : (y0 != 1) = true := by simp [ky]
        have f2 : (y0 != 2) = false := by simp [ky]
        have HE1 : Hid (elemB l[j] = true) := by unfold Hid; rw [HEL.out]; simp [ky]
        clear ky ky1
        cases q2 with
        | false =>
          have HF : Hid (q = false) := by unfold Hid; rw [HQ.out]; unfold listB; rw [valids_false (l := l) (k := j) hlt' (by rw [HE1.out, ← HQ2.out]; rfl)]; simp
          go_wp2_with fail
          refine (HCC.out _ ((Later.rfl' _).alloc _)).mono ?_; rintro e w1 ⟨rfl, hb1⟩
          go_wp2_with fail
          go_ret
          exact ⟨ret_bool HF.out.symm, (HLW.out.alloc _).trans hb1⟩
        | true =>
          go_wp2_with fail
          refine (HCC.out _ ((Later.rfl' _).alloc _)).mono ?_; rintro e w1 ⟨rfl, hb1⟩
          go_wp2_with fail
          go_roundw
          case rel => exact ⟨j + 1, by omega, by go_num, fun k hk hkj => if e : k = j then by subst e; exact ⟨HE1.out, HQ2.out.symm⟩ else HA.out k hk (by omega), HW.out.trans (((Later.rfl' _).alloc _).trans hb1)⟩
          case measure => simp [intOf]; omega
      have ky2 := ky
      clear ky
      by_cases ky : y0 = 3
      · have f1 : (y0 != 1) = true := by simp [ky]
        have f2 : (y0 != 2) = true := by simp [ky]
        have f3 : (y0 != 3) = false := by simp [ky]
        have HE1 : Hid (elemB l[j] = true) := by unfold Hid; rw [HEL.out]; simp [ky]
        clear ky ky1 ky2
        cases q2 with
        | false =>
          have HF : Hid (q = false) := by unfold Hid; rw [HQ.out]; unfold listB; rw [valids_false (l := l) (k := j) hlt' (by rw [HE1.out, ← HQ2.out]; rfl)]; simp
          go_wp2_with fail
          refine (HCC.out _ ((Later.rfl' _).alloc _)).mono ?_; rintro e w1 ⟨rfl, hb1⟩
          go_wp2_with fail
          go_ret
          exact ⟨ret_bool HF.out.symm, (HLW.out.alloc _).trans hb1⟩
        | true =>
          go_wp2_with fail
          refine (HCC.out _ ((Later.rfl' _).alloc _)).mono ?_; rintro e w1 ⟨rfl, hb1⟩
          go_wp2_with fail
          go_roundw
          case rel => exact ⟨j + 1, by omega, by go_num, fun k hk hkj => if e : k = j then by subst e; exact ⟨HE1.out, HQ2.out.symm⟩ else HA.out k hk (by omega), HW.out.trans (((Later.rfl' _).alloc _).trans hb1)⟩
          case measure => simp [intOf]; omega
      have ky3 := ky
      clear ky
      have HF : Hid (q = false) := by unfold Hid; rw [HQ.out]; unfold listB; rw [valids_false (l := l) (k := j) hlt' (by rw [HEL.out]; simp [ky1, ky2, ky3])]; simp
      have f1 : (y0 != 1) = true := by simpa using ky1
      have f2 : (y0 != 2) = true := by simpa using ky2
      have f3 : (y0 != 3) = true := by simpa using ky3
      clear ky1 ky2 ky3
      go_wp2_with fail
      go_ret
      exact ⟨ret_bool HF.out.symm, HLW.out.alloc _⟩
    · have HV : Hid (q = ((decide (n = 0) && (decide (s = 0) && (decide (t.toList = []) && (decide (C = 0) && decide (R = 0))))) && (decide (L ≤ 8) && decide (D ≤ 2)))) := by
        unfold Hid; rw [HQ.out]; unfold listB
        rw [valids_true fun k hk => HA.out k hk (by have := HL.out; omega), HD.out, ← HL.out]; simp
      clear hall hw HA
      by_cases hn : n = 0
      rotate_left
      · have HF : Hid (q = false) := by unfold Hid; rw [HV.out]; simp [hn]
        have jn : (n == 0) = false := by simpa using hn
        clear hn
        go_wp2_with fail
        go_ret
        exact ⟨ret_bool HF.out.symm, HLW.out⟩
      subst hn
      by_cases hs : s = 0
      rotate_left
      · have HF : Hid (q = false) := by unfold Hid; rw [HV.out]; simp [hs]
        have js : (s == 0) = false := by simpa using hs
        clear hs
        go_wp2_with fail
        go_ret
        exact ⟨ret_bool HF.out.symm, HLW.out⟩
      subst hs
      by_cases ht : t.toList = []
      rotate_left
      · have HF : Hid (q = false) := by unfold Hid; rw [HV.out]; simp [ht]
        have jt : (t.toList == []) = false := by simpa using ht
        clear ht
        go_wp2_with fail
        go_ret
        exact ⟨ret_bool HF.out.symm, HLW.out⟩
      skip
      by_cases hC : C = 0
      rotate_left
      · have HF : Hid (q = false) := by unfold Hid; rw [HV.out]; simp [hC]
        have jC : ((C : Int) == 0) = false := by simpa using hC
        clear hC
        go_wp2_with fail
        go_ret
        exact ⟨ret_bool HF.out.symm, HLW.out⟩
      have jC : ((C : Int) == 0) = true := by simpa using hC
      by_cases hR : R = 0
      rotate_left
      · have HF : Hid (q = false) := by unfold Hid; rw [HV.out]; simp [hR]
        have jR : ((R : Int) == 0) = false := by simpa using hR
        clear hR
        go_wp2_with fail
        go_ret
        exact ⟨ret_bool HF.out.symm, HLW.out⟩
      have jR : ((R : Int) == 0) = true := by simpa using hR
      by_cases h8 : L ≤ 8
      rotate_left
      · have HF : Hid (q = false) := by unfold Hid; rw [HV.out]; simp [h8]
        have j8 : decide ((L : Int) ≤ 8) = false := by simp; omega
        clear h8
        go_wp2_with fail
        go_ret
        exact ⟨ret_bool HF.out.symm, HLW.out⟩
      have j8 : decide ((L : Int) ≤ 8) = true := by simp; omega
      have HF : Hid (q = decide (D ≤ 2)) := by unfold Hid; rw [HV.out]; simp [ht, hC, hR, h8]
      clear h8 hC hR
      by_cases hD2 : D ≤ 2
      · have hd : decide (((D + 1 : Nat) : Int) ≤ 3) = true := by simp; omega
        have HG : Hid (q = true) := by unfold Hid; rw [HF.out]; simp [hD2]
        clear hD2
        go_wp2_with fail
        refine (HCD.out _ HLW.out).mono ?_; rintro e w1 ⟨rfl, hb1⟩
        go_wp2_with fail
        all_goals
          go_ret
          exact ⟨ret_bool (by rw [HG.out]; first | rfl | exact hd.symm | (simp at hd ⊢; omega)), HLW.out.trans hb1⟩
      · have hd : decide (((D + 1 : Nat) : Int) ≤ 3) = false := by simp; omega
        have HG : Hid (q = false) := by unfold Hid; rw [HF.out]; simp [hD2]
        clear hD2
        go_wp2_with fail
        refine (HCD.out _ HLW.out).mono ?_; rintro e w1 ⟨rfl, hb1⟩
        go_wp2_with fail
        all_goals
          go_ret
          exact ⟨ret_bool (by rw [HG.out]; first | rfl | exact hd.symm | (simp at hd ⊢; omega)), HLW.out.trans hb1⟩
end Go.Proofs.Ytghemlokpfipoaa
namespace Go.Proofs.Ytghemlokpfipoaa
open Go.ChangeShapes Go.WideShapes Go.ChangeAt Go.RowKit
set_option linter.unusedVariables false
set_option linter.unusedSimpArgs false
set_option maxRecDepth 100000

set_option maxHeartbeats 20000000 in
theorem implValid3b (k n s : Int) (t : ByteArray) (l : List Vl) (cl : List ByteArray) (r : List Rw) (ih : ∀ x, x ∈ l → ValidQ 18 x) (k3 : k = 3) (hxL : l.length = 0) (hxC : ¬ cl.length = 0) : ValidQ 18 (.mk k n s t l cl r) := by
  intro hcost W S cs h
  have CD := fun W' (hW' : Later W W') => implDepthOf (.mk k n s t l cl r) hcost W' S cs (h.later hW')
  rw [Vl.depth] at CD
  have CT := fun W' (hW' : Later W W') => implTable k n s t l cl r W' S cs (h.later hW')
  have CL := fun W' (hW' : Later W W') => implTable k n s t l cl r W' S cs (h.later hW')
  obtain ⟨A1, c1, A2, c2, A3, c3, rfl, hb4, ⟨p1, q1⟩, ⟨p2, q2⟩, ⟨p3, q3⟩, g1, g2, g3⟩ := h.val
  have CX := fun W' => implIsValidText t W' (by simp only [maxLen]; omega)
  have CN := fun W' => implNumV n _ rfl W'
  have CS := fun W' => implNumV s _ rfl W'
  have hm1 : ∀ x, x ∈ l → Vl.cost x ≤ 1099511627776 := fun x hx => by rw [Vl.cost_mk] at hcost; have := sumN_mem Vl.cost hx; omega
  have bl : l.length ≤ 1099511627776 := by rw [Vl.cost_mk] at hcost; omega
  have bc : cl.length ≤ 1099511627776 := by rw [Vl.cost_mk] at hcost; unfold costS at hcost; omega
  have br : r.length ≤ 1099511627776 := by rw [Vl.cost_mk] at hcost; omega
  obtain ⟨q, hq⟩ : ∃ q, q = Vl.valid (.mk k n s t l cl r) := ⟨_, rfl⟩
  rw [← hq]
  rw [Vl.valid] at hq
  have hlb : (Vl.valids l && (decide (l.length ≤ 8) && decide (Vl.depths l ≤ 2))) = listB l := rfl
  rw [hlb] at hq
  clear hlb h g2 g3 hcost hb4
  obtain ⟨L, hL⟩ : ∃ L, L = l.length := ⟨_, rfl⟩
  obtain ⟨C, hC⟩ : ∃ L, L = cl.length := ⟨_, rfl⟩
  obtain ⟨R, hR⟩ : ∃ L, L = r.length := ⟨_, rfl⟩
  simp only [← hL, ← hC, ← hR] at CL CT CD hq bl bc br p1 p2 p3 g1 hxL hxC ⊢
  have HE := Lib.hid g1
  have HCL := Lib.hid CL; have HCT := Lib.hid CT; have HCX := Lib.hid CX; have HCN := Lib.hid CN; have HCS := Lib.hid CS; have HCD := Lib.hid CD
  have IH := Lib.hid ih; have HM := Lib.hid hm1; have HL := Lib.hid hL; have HC := Lib.hid hC; have HR := Lib.hid hR; have HQ := Lib.hid hq
  clear CL CT CX CN CS CD ih hm1 g1 hL hC hR hq
  subst k3
  obtain ⟨D, hD⟩ : ∃ D, D = Vl.depths l := ⟨_, rfl⟩
  have CD := HCD.out
  simp only [← hD] at CD
  replace HCD := Lib.hid CD
  have HD := Lib.hid hD
  clear CD hD HCL HCT HCX HCN HCS
  have jL : ((L : Int) == 0) = true := by simpa using hxL
  have HZL := Lib.hid hxL
  clear hxL
  have jC : ((C : Int) == 0) = false := by simpa using hxC
  clear hxC
  go_enter Try.func18, Try.ntmps18
  go_wp2_with fail
  go_loopw [126] (fun i wr => ∃ j : Nat, j ≤ L ∧ i = .int .i64 j ∧ (∀ k, (hk : k < l.length) → k < j → elemB l[k] = true ∧ l[k].valid = true) ∧ Later (W.alloc (.cells #[.int .i64 3, .int .i64 n, .int .i64 s, .string t, .slice A1 L c1, .slice A2 C c2, .slice A3 R c3] 28)) wr) (fun i _ => L - (intOf i).toNat)
  case atStart => exact ⟨0, Nat.zero_le _, rfl, fun k _ h => absurd h (by omega), Later.rfl' _⟩
  case round =>
    obtain ⟨j, hj, rfl, hall, hw⟩ := hrel
    have B := (box_alloc W _ _).later hw
    have a0 := B.cell (j := 0) rfl
    have a1 := B.cell (j := 1) rfl
    have a2 := B.cell (j := 2) rfl
    have a3 := B.cell (j := 3) rfl
    have a4 := B.cell (j := 4) rfl
    have a5 := B.cell (j := 5) rfl
    have a6 := B.cell (j := 6) rfl
    have hz : W.heap.size < wr.heap.size := B.lt
    have HA := Lib.hid hall
    have HW := Lib.hid hw
    have HLW := Lib.hid (((Later.rfl' W).alloc _).trans hw)
    clear B
    by_cases hlt : j < L
    · have hlt' : j < l.length := by rw [← HL.out]; exact hlt
      have HE' := HE.out
      rw [HL.out] at HE'
      obtain ⟨b, off, y0, y1, y2, y3, B1, n1, d1, B2, n2, d2, B3, n3, d3, rfl, hb, _, hx, e0, e1, e2, e3, e4, e5, e6⟩ := (HE'.later HLW.out).valAt hlt'
      have C := fun W' (hW' : Later wr W') => IH.out l[j] (List.getElem_mem hlt') (HM.out _ (List.getElem_mem hlt')) W' S _ (hx.later hW')
      have hel : elemB l[j] = (decide (y0 = 1) || (decide (y0 = 2) || decide (y0 = 3))) := by
        obtain ⟨xk, xn, xs, xt, xl, xc, xr, he⟩ := Vl.shape l[j]
        rw [he] at hx ⊢
        obtain ⟨_, _, _, _, _, _, ee, _⟩ := hx.val
        simp only [List.cons.injEq, Value.int.injEq, true_and] at ee
        rw [ee.1]
        rfl
      obtain ⟨q2, hq2⟩ : ∃ q, q = l[j].valid := ⟨_, rfl⟩
      simp only [← hq2] at C
      have HQ2 := Lib.hid hq2
      have HCC := Lib.hid C
      have HEL := Lib.hid hel
      clear hx C hq2 hall hw hel HE' a0 a1 a2 a3 a4 a5 a6 hz
      by_cases ky : y0 = 1
      · have f1 : (y0 != 1) = false := by simp [ky]
        have HE1 : Hid (elemB l[j] = true) := by unfold Hid; rw [HEL.out]; simp [ky]
        clear ky
        cases q2 with
        | false =>
          have HF : Hid (q = false) := by unfold Hid; rw [HQ.out]; unfold listB; rw [valids_false (l := l) (k := j) hlt' (by rw [HE1.out, ← HQ2.out]; rfl)]; simp
          go_wp2_with fail
          refine (HCC.out _ ((Later.rfl' _).alloc _)).mono ?_; rintro e w1 ⟨rfl, hb1⟩
          go_wp2_with fail
          go_ret
          exact ⟨ret_bool HF.out.symm, (HLW.out.alloc _).trans hb1⟩
        | true =>
          go_wp2_with fail
          refine (HCC.out _ ((Later.rfl' _).alloc _)).mono ?_; rintro e w1 ⟨rfl, hb1⟩
          go_wp2_with fail
          go_roundw
          case rel => exact ⟨j + 1, by omega, by go_num, fun k hk hkj => if e : k = j then by subst e; exact ⟨HE1.out, HQ2.out.symm⟩ else HA.out k hk (by omega), HW.out.trans (((Later.rfl' _).alloc _).trans hb1)⟩
          case measure => simp [intOf]; omega
      have ky1 := ky
      clear ky
      by_cases ky : y0 = 2
      · have f1 : (y0 != 1) = true := by simp [ky]
        have f2 : (y0 != 2) = false := by simp [ky]
        have HE1 : Hid (elemB l[j] = true) := by unfold Hid; rw [HEL.out]; simp [ky]
        clear ky ky1
        cases q2 with
        | false =>
          have HF : Hid (q = false) := by unfold Hid; rw [HQ.out]; unfold listB; rw [valids_false (l := l) (k := j) hlt' (by rw [HE1.out, ← HQ2.out]; rfl)]; simp
          go_wp2_with fail
          refine (HCC.out _ ((Later.rfl' _).alloc _)).mono ?_; rintro e w1 ⟨rfl, hb1⟩
          go_wp2_with fail
          go_ret
          exact ⟨ret_bool HF.out.symm, (HLW.out.alloc _).trans hb1⟩
        | true =>
          go_wp2_with fail
          refine (HCC.out _ ((Later.rfl' _).alloc _)).mono ?_; rintro e w1 ⟨rfl, hb1⟩
          go_wp2_with fail
          go_roundw
          case rel => exact ⟨j + 1, by omega, by go_num, fun k hk hkj => if e : k = j then by subst e; exact ⟨HE1.out, HQ2.out.symm⟩ else HA.out k hk (by omega), HW.out.trans (((Later.rfl' _).alloc _).trans hb1)⟩
          case measure => simp [intOf]; omega
      have ky2 := ky
      clear ky
      by_cases ky : y0 = 3
      · have f1 : (y0 != 1) = true := by simp [ky]
        have f2 : (y0 != 2) = true := by simp [ky]
        have f3 : (y0 != 3) = false := by simp [ky]
        have HE1 : Hid (elemB l[j] = true) := by unfold Hid; rw [HEL.out]; simp [ky]
        clear ky ky1 ky2
        cases q2 with
        | false =>
          have HF : Hid (q = false) := by unfold Hid; rw [HQ.out]; unfold listB; rw [valids_false (l := l) (k := j) hlt' (by rw [HE1.out, ← HQ2.out]; rfl)]; simp
          go_wp2_with fail
          refine (HCC.out _ ((Later.rfl' _).alloc _)).mono ?_; rintro e w1 ⟨rfl, hb1⟩
          go_wp2_with fail
          go_ret
          exact ⟨ret_bool HF.out.symm, (HLW.out.alloc _).trans hb1⟩
        | true =>
          go_wp2_with fail
          refine (HCC.out _ ((Later.rfl' _).alloc _)).mono ?_; rintro e w1 ⟨rfl, hb1⟩
          go_wp2_with fail
          go_roundw
          case rel => exact ⟨j + 1, by omega, by go_num, fun k hk hkj => if e : k = j then by subst e; exact ⟨HE1.out, HQ2.out.symm⟩ else HA.out k hk (by omega), HW.out.trans (((Later.rfl' _).alloc _).trans hb1)⟩
          case measure => simp [intOf]; omega
      have ky3 := ky
      clear ky
      have HF : Hid (q = false) := by unfold Hid; rw [HQ.out]; unfold listB; rw [valids_false (l := l) (k := j) hlt' (by rw [HEL.out]; simp [ky1, ky2, ky3])]; simp
      have f1 : (y0 != 1) = true := by simpa using ky1
      have f2 : (y0 != 2) = true := by simpa using ky2
      have f3 : (y0 != 3) = true := by simpa using ky3
      clear ky1 ky2 ky3
      go_wp2_with fail
      go_ret
      exact ⟨ret_bool HF.out.symm, HLW.out.alloc _⟩
    · have HV : Hid (q = ((decide (n = 0) && (decide (s = 0) && (decide (t.toList = []) && (decide (C = 0) && decide (R = 0))))) && (decide (L ≤ 8) && decide (D ≤ 2)))) := by
        unfold Hid; rw [HQ.out]; unfold listB
        rw [valids_true fun k hk => HA.out k hk (by have := HL.out; omega), HD.out, ← HL.out]; simp
      clear hall hw HA
      by_cases hn : n = 0
      rotate_left
      · have HF : Hid (q = false) := by unfold Hid; rw [HV.out]; simp [hn]
        have jn : (n == 0) = false := by simpa using hn
        clear hn
        go_wp2_with fail
        go_ret
        exact ⟨ret_bool HF.out.symm, HLW.out⟩
      subst hn
      by_cases hs : s = 0
      rotate_left
      · have HF : Hid (q = false) := by unfold Hid; rw [HV.out]; simp [hs]
        have js : (s == 0) = false := by simpa using hs
        clear hs
        go_wp2_with fail
        go_ret
        exact ⟨ret_bool HF.out.symm, HLW.out⟩
      subst hs
      by_cases ht : t.toList = []
      rotate_left
      · have HF : Hid (q = false) := by unfold Hid; rw [HV.out]; simp [ht]
        have jt : (t.toList == []) = false := by simpa using ht
        clear ht
        go_wp2_with fail
        go_ret
        exact ⟨ret_bool HF.out.symm, HLW.out⟩
      skip
      have HF : Hid (q = false) := by
        unfold Hid; rw [HV.out]
        have h9 : ¬ C = 0 := by simpa using jC
        simp [h9]
      go_wp2_with fail
      go_ret
      exact ⟨ret_bool HF.out.symm, HLW.out⟩
end Go.Proofs.Ytghemlokpfipoaa
namespace Go.Proofs.Ytghemlokpfipoaa
open Go.ChangeShapes Go.WideShapes Go.ChangeAt Go.RowKit
set_option linter.unusedVariables false
set_option linter.unusedSimpArgs false
set_option maxRecDepth 100000

set_option maxHeartbeats 20000000 in
theorem implValid3c (k n s : Int) (t : ByteArray) (l : List Vl) (cl : List ByteArray) (r : List Rw) (ih : ∀ x, x ∈ l → ValidQ 18 x) (k3 : k = 3) (hxL : l.length = 0) (hxC : cl.length = 0) (hxR : ¬ r.length = 0) : ValidQ 18 (.mk k n s t l cl r) := by
  intro hcost W S cs h
  have CD := fun W' (hW' : Later W W') => implDepthOf (.mk k n s t l cl r) hcost W' S cs (h.later hW')
  rw [Vl.depth] at CD
  have CT := fun W' (hW' : Later W W') => implTable k n s t l cl r W' S cs (h.later hW')
  have CL := fun W' (hW' : Later W W') => implTable k n s t l cl r W' S cs (h.later hW')
  obtain ⟨A1, c1, A2, c2, A3, c3, rfl, hb4, ⟨p1, q1⟩, ⟨p2, q2⟩, ⟨p3, q3⟩, g1, g2, g3⟩ := h.val
  have CX := fun W' => implIsValidText t W' (by simp only [maxLen]; omega)
  have CN := fun W' => implNumV n _ rfl W'
  have CS := fun W' => implNumV s _ rfl W'
  have hm1 : ∀ x, x ∈ l → Vl.cost x ≤ 1099511627776 := fun x hx => by rw [Vl.cost_mk] at hcost; have := sumN_mem Vl.cost hx; omega
  have bl : l.length ≤ 1099511627776 := by rw [Vl.cost_mk] at hcost; omega
  have bc : cl.length ≤ 1099511627776 := by rw [Vl.cost_mk] at hcost; unfold costS at hcost; omega
  have br : r.length ≤ 1099511627776 := by rw [Vl.cost_mk] at hcost; omega
  obtain ⟨q, hq⟩ : ∃ q, q = Vl.valid (.mk k n s t l cl r) := ⟨_, rfl⟩
  rw [← hq]
  rw [Vl.valid] at hq
  have hlb : (Vl.valids l && (decide (l.length ≤ 8) && decide (Vl.depths l ≤ 2))) = listB l := rfl
  rw [hlb] at hq
  clear hlb h g2 g3 hcost hb4
  obtain ⟨L, hL⟩ : ∃ L, L = l.length := ⟨_, rfl⟩
  obtain ⟨C, hC⟩ : ∃ L, L = cl.length := ⟨_, rfl⟩
  obtain ⟨R, hR⟩ : ∃ L, L = r.length := ⟨_, rfl⟩
  simp only [← hL, ← hC, ← hR] at CL CT CD hq bl bc br p1 p2 p3 g1 hxL hxC hxR ⊢
  have HE := Lib.hid g1
  have HCL := Lib.hid CL; have HCT := Lib.hid CT; have HCX := Lib.hid CX; have HCN := Lib.hid CN; have HCS := Lib.hid CS; have HCD := Lib.hid CD
  have IH := Lib.hid ih; have HM := Lib.hid hm1; have HL := Lib.hid hL; have HC := Lib.hid hC; have HR := Lib.hid hR; have HQ := Lib.hid hq
  clear CL CT CX CN CS CD ih hm1 g1 hL hC hR hq
  subst k3
  obtain ⟨D, hD⟩ : ∃ D, D = Vl.depths l := ⟨_, rfl⟩
  have CD := HCD.out
  simp only [← hD] at CD
  replace HCD := Lib.hid CD
  have HD := Lib.hid hD
  clear CD hD HCL HCT HCX HCN HCS
  have jL : ((L : Int) == 0) = true := by simpa using hxL
  have HZL := Lib.hid hxL
  clear hxL
  have jC : ((C : Int) == 0) = true := by simpa using hxC
  have HZC := Lib.hid hxC
  clear hxC
  have jR : ((R : Int) == 0) = false := by simpa using hxR
  clear hxR
  go_enter Try.func18, Try.ntmps18
  go_wp2_with fail
  go_loopw [126] (fun i wr => ∃ j : Nat, j ≤ L ∧ i = .int .i64 j ∧ (∀ k, (hk : k < l.length) → k < j → elemB l[k] = true ∧ l[k].valid = true) ∧ Later (W.alloc (.cells #[.int .i64 3, .int .i64 n, .int .i64 s, .string t, .slice A1 L c1, .slice A2 C c2, .slice A3 R c3] 28)) wr) (fun i _ => L - (intOf i).toNat)
  case atStart => exact ⟨0, Nat.zero_le _, rfl, fun k _ h => absurd h (by omega), Later.rfl' _⟩
  case round =>
    obtain ⟨j, hj, rfl, hall, hw⟩ := hrel
    have B := (box_alloc W _ _).later hw
    have a0 := B.cell (j := 0) rfl
    have a1 := B.cell (j := 1) rfl
    have a2 := B.cell (j := 2) rfl
    have a3 := B.cell (j := 3) rfl
    have a4 := B.cell (j := 4) rfl
    have a5 := B.cell (j := 5) rfl
    have a6 := B.cell (j := 6) rfl
    have hz : W.heap.size < wr.heap.size := B.lt
    have HA := Lib.hid hall
    have HW := Lib.hid hw
    have HLW := Lib.hid (((Later.rfl' W).alloc _).trans hw)
    clear B
    by_cases hlt : j < L
    · have hlt' : j < l.length := by rw [← HL.out]; exact hlt
      have HE' := HE.out
      rw [HL.out] at HE'
      obtain ⟨b, off, y0, y1, y2, y3, B1, n1, d1, B2, n2, d2, B3, n3, d3, rfl, hb, _, hx, e0, e1, e2, e3, e4, e5, e6⟩ := (HE'.later HLW.out).valAt hlt'
      have C := fun W' (hW' : Later wr W') => IH.out l[j] (List.getElem_mem hlt') (HM.out _ (List.getElem_mem hlt')) W' S _ (hx.later hW')
      have hel : elemB l[j] = (decide (y0 = 1) || (decide (y0 = 2) || decide (y0 = 3))) := by
        obtain ⟨xk, xn, xs, xt, xl, xc, xr, he⟩ := Vl.shape l[j]
        rw [he] at hx ⊢
        obtain ⟨_, _, _, _, _, _, ee, _⟩ := hx.val
        simp only [List.cons.injEq, Value.int.injEq, true_and] at ee
        rw [ee.1]
        rfl
      obtain ⟨q2, hq2⟩ : ∃ q, q = l[j].valid := ⟨_, rfl⟩
      simp only [← hq2] at C
      have HQ2 := Lib.hid hq2
      have HCC := Lib.hid C
      have HEL := Lib.hid hel
      clear hx C hq2 hall hw hel HE' a0 a1 a2 a3 a4 a5 a6 hz
      by_cases ky : y0 = 1
      · have f1 : (y0 != 1) = false := by simp [ky]
        have HE1 : Hid (elemB l[j] = true) := by unfold Hid; rw [HEL.out]; simp [ky]
        clear ky
        cases q2 with
        | false =>
          have HF : Hid (q = false) := by unfold Hid; rw [HQ.out]; unfold listB; rw [valids_false (l := l) (k := j) hlt' (by rw [HE1.out, ← HQ2.out]; rfl)]; simp
          go_wp2_with fail
          refine (HCC.out _ ((Later.rfl' _).alloc _)).mono ?_; rintro e w1 ⟨rfl, hb1⟩
          go_wp2_with fail
          go_ret
          exact ⟨ret_bool HF.out.symm, (HLW.out.alloc _).trans hb1⟩
        | true =>
          go_wp2_with fail
          refine (HCC.out _ ((Later.rfl' _).alloc _)).mono ?_; rintro e w1 ⟨rfl, hb1⟩
          go_wp2_with fail
          go_roundw
          case rel => exact ⟨j + 1, by omega, by go_num, fun k hk hkj => if e : k = j then by subst e; exact ⟨HE1.out, HQ2.out.symm⟩ else HA.out k hk (by omega), HW.out.trans (((Later.rfl' _).alloc _).trans hb1)⟩
          case measure => simp [intOf]; omega
      have ky1 := ky
      clear ky
      by_cases ky : y0 = 2
      · have f1 : (y0 != 1) = true := by simp [ky]
        have f2 : (y0 != 2) = false := by simp [ky]
        have HE1 : Hid (elemB l[j] = true) := by unfold Hid; rw [HEL.out]; simp [ky]
        clear ky ky1
        cases q2 with
        | false =>
          have HF : Hid (q = false) := by unfold Hid; rw [HQ.out]; unfold listB; rw [valids_false (l := l) (k := j) hlt' (by rw [HE1.out, ← HQ2.out]; rfl)]; simp
          go_wp2_with fail
          refine (HCC.out _ ((Later.rfl' _).alloc _)).mono ?_; rintro e w1 ⟨rfl, hb1⟩
          go_wp2_with fail
          go_ret
          exact ⟨ret_bool HF.out.symm, (HLW.out.alloc _).trans hb1⟩
        | true =>
          go_wp2_with fail
          refine (HCC.out _ ((Later.rfl' _).alloc _)).mono ?_; rintro e w1 ⟨rfl, hb1⟩
          go_wp2_with fail
          go_roundw
          case rel => exact ⟨j + 1, by omega, by go_num, fun k hk hkj => if e : k = j then by subst e; exact ⟨HE1.out, HQ2.out.symm⟩ else HA.out k hk (by omega), HW.out.trans (((Later.rfl' _).alloc _).trans hb1)⟩
          case measure => simp [intOf]; omega
      have ky2 := ky
      clear ky
      by_cases ky : y0 = 3
      · have f1 : (y0 != 1) = true := by simp [ky]
        have f2 : (y0 != 2) = true := by simp [ky]
        have f3 : (y0 != 3) = false := by simp [ky]
        have HE1 : Hid (elemB l[j] = true) := by unfold Hid; rw [HEL.out]; simp [ky]
        clear ky ky1 ky2
        cases q2 with
        | false =>
          have HF : Hid (q = false) := by unfold Hid; rw [HQ.out]; unfold listB; rw [valids_false (l := l) (k := j) hlt' (by rw [HE1.out, ← HQ2.out]; rfl)]; simp
          go_wp2_with fail
          refine (HCC.out _ ((Later.rfl' _).alloc _)).mono ?_; rintro e w1 ⟨rfl, hb1⟩
          go_wp2_with fail
          go_ret
          exact ⟨ret_bool HF.out.symm, (HLW.out.alloc _).trans hb1⟩
        | true =>
          go_wp2_with fail
          refine (HCC.out _ ((Later.rfl' _).alloc _)).mono ?_; rintro e w1 ⟨rfl, hb1⟩
          go_wp2_with fail
          go_roundw
          case rel => exact ⟨j + 1, by omega, by go_num, fun k hk hkj => if e : k = j then by subst e; exact ⟨HE1.out, HQ2.out.symm⟩ else HA.out k hk (by omega), HW.out.trans (((Later.rfl' _).alloc _).trans hb1)⟩
          case measure => simp [intOf]; omega
      have ky3 := ky
      clear ky
      have HF : Hid (q = false) := by unfold Hid; rw [HQ.out]; unfold listB; rw [valids_false (l := l) (k := j) hlt' (by rw [HEL.out]; simp [ky1, ky2, ky3])]; simp
      have f1 : (y0 != 1) = true := by simpa using ky1
      have f2 : (y0 != 2) = true := by simpa using ky2
      have f3 : (y0 != 3) = true := by simpa using ky3
      clear ky1 ky2 ky3
      go_wp2_with fail
      go_ret
      exact ⟨ret_bool HF.out.symm, HLW.out.alloc _⟩
    · have HV : Hid (q = ((decide (n = 0) && (decide (s = 0) && (decide (t.toList = []) && (decide (C = 0) && decide (R = 0))))) && (decide (L ≤ 8) && decide (D ≤ 2)))) := by
        unfold Hid; rw [HQ.out]; unfold listB
        rw [valids_true fun k hk => HA.out k hk (by have := HL.out; omega), HD.out, ← HL.out]; simp
      clear hall hw HA
      by_cases hn : n = 0
      rotate_left
      · have HF : Hid (q = false) := by unfold Hid; rw [HV.out]; simp [hn]
        have jn : (n == 0) = false := by simpa using hn
        clear hn
        go_wp2_with fail
        go_ret
        exact ⟨ret_bool HF.out.symm, HLW.out⟩
      subst hn
      by_cases hs : s = 0
      rotate_left
      · have HF : Hid (q = false) := by unfold Hid; rw [HV.out]; simp [hs]
        have js : (s == 0) = false := by simpa using hs
        clear hs
        go_wp2_with fail
        go_ret
        exact ⟨ret_bool HF.out.symm, HLW.out⟩
      subst hs
      by_cases ht : t.toList = []
      rotate_left
      · have HF : Hid (q = false) := by unfold Hid; rw [HV.out]; simp [ht]
        have jt : (t.toList == []) = false := by simpa using ht
        clear ht
        go_wp2_with fail
        go_ret
        exact ⟨ret_bool HF.out.symm, HLW.out⟩
      skip
      have HF : Hid (q = false) := by
        unfold Hid; rw [HV.out]
        have h9 : ¬ R = 0 := by simpa using jR
        simp [h9]
      go_wp2_with fail
      go_ret
      exact ⟨ret_bool HF.out.symm, HLW.out⟩
end Go.Proofs.Ytghemlokpfipoaa
namespace Go.Proofs.Ytghemlokpfipoaa
open Go.ChangeShapes Go.WideShapes Go.ChangeAt Go.RowKit
set_option linter.unusedVariables false
set_option linter.unusedSimpArgs false
set_option maxRecDepth 100000

set_option maxHeartbeats 20000000 in
theorem implValid3d (k n s : Int) (t : ByteArray) (l : List Vl) (cl : List ByteArray) (r : List Rw) (ih : ∀ x, x ∈ l → ValidQ 18 x) (k3 : k = 3) (hxL : l.length = 0) (hxC : cl.length = 0) (hxR : r.length = 0) : ValidQ 18 (.mk k n s t l cl r) := by
  intro hcost W S cs h
  have CD := fun W' (hW' : Later W W') => implDepthOf (.mk k n s t l cl r) hcost W' S cs (h.later hW')
  rw [Vl.depth] at CD
  have CT := fun W' (hW' : Later W W') => implTable k n s t l cl r W' S cs (h.later hW')
  have CL := fun W' (hW' : Later W W') => implTable k n s t l cl r W' S cs (h.later hW')
  obtain ⟨A1, c1, A2, c2, A3, c3, rfl, hb4, ⟨p1, q1⟩, ⟨p2, q2⟩, ⟨p3, q3⟩, g1, g2, g3⟩ := h.val
  have CX := fun W' => implIsValidText t W' (by simp only [maxLen]; omega)
  have CN := fun W' => implNumV n _ rfl W'
  have CS := fun W' => implNumV s _ rfl W'
  have hm1 : ∀ x, x ∈ l → Vl.cost x ≤ 1099511627776 := fun x hx => by rw [Vl.cost_mk] at hcost; have := sumN_mem Vl.cost hx; omega
  have bl : l.length ≤ 1099511627776 := by rw [Vl.cost_mk] at hcost; omega
  have bc : cl.length ≤ 1099511627776 := by rw [Vl.cost_mk] at hcost; unfold costS at hcost; omega
  have br : r.length ≤ 1099511627776 := by rw [Vl.cost_mk] at hcost; omega
  obtain ⟨q, hq⟩ : ∃ q, q = Vl.valid (.mk k n s t l cl r) := ⟨_, rfl⟩
  rw [← hq]
  rw [Vl.valid] at hq
  have hlb : (Vl.valids l && (decide (l.length ≤ 8) && decide (Vl.depths l ≤ 2))) = listB l := rfl
  rw [hlb] at hq
  clear hlb h g2 g3 hcost hb4
  obtain ⟨L, hL⟩ : ∃ L, L = l.length := ⟨_, rfl⟩
  obtain ⟨C, hC⟩ : ∃ L, L = cl.length := ⟨_, rfl⟩
  obtain ⟨R, hR⟩ : ∃ L, L = r.length := ⟨_, rfl⟩
  simp only [← hL, ← hC, ← hR] at CL CT CD hq bl bc br p1 p2 p3 g1 hxL hxC hxR ⊢
  have HE := Lib.hid g1
  have HCL := Lib.hid CL; have HCT := Lib.hid CT; have HCX := Lib.hid CX; have HCN := Lib.hid CN; have HCS := Lib.hid CS; have HCD := Lib.hid CD
  have IH := Lib.hid ih; have HM := Lib.hid hm1; have HL := Lib.hid hL; have HC := Lib.hid hC; have HR := Lib.hid hR; have HQ := Lib.hid hq
  clear CL CT CX CN CS CD ih hm1 g1 hL hC hR hq
  subst k3
  obtain ⟨D, hD⟩ : ∃ D, D = Vl.depths l := ⟨_, rfl⟩
  have CD := HCD.out
  simp only [← hD] at CD
  replace HCD := Lib.hid CD
  have HD := Lib.hid hD
  clear CD hD HCL HCT HCX HCN HCS
  have jL : ((L : Int) == 0) = true := by simpa using hxL
  have HZL := Lib.hid hxL
  clear hxL
  have jC : ((C : Int) == 0) = true := by simpa using hxC
  have HZC := Lib.hid hxC
  clear hxC
  have jR : ((R : Int) == 0) = true := by simpa using hxR
  have HZR := Lib.hid hxR
  clear hxR
  go_enter Try.func18, Try.ntmps18
  go_wp2_with fail
  go_loopw [126] (fun i wr => ∃ j : Nat, j ≤ L ∧ i = .int .i64 j ∧ (∀ k, (hk : k < l.length) → k < j → elemB l[k] = true ∧ l[k].valid = true) ∧ Later (W.alloc (.cells #[.int .i64 3, .int .i64 n, .int .i64 s, .string t, .slice A1 L c1, .slice A2 C c2, .slice A3 R c3] 28)) wr) (fun i _ => L - (intOf i).toNat)
  case atStart => exact ⟨0, Nat.zero_le _, rfl, fun k _ h => absurd h (by omega), Later.rfl' _⟩
  case round =>
    obtain ⟨j, hj, rfl, hall, hw⟩ := hrel
    have B := (box_alloc W _ _).later hw
    have a0 := B.cell (j := 0) rfl
    have a1 := B.cell (j := 1) rfl
    have a2 := B.cell (j := 2) rfl
    have a3 := B.cell (j := 3) rfl
    have a4 := B.cell (j := 4) rfl
    have a5 := B.cell (j := 5) rfl
    have a6 := B.cell (j := 6) rfl
    have hz : W.heap.size < wr.heap.size := B.lt
    have HA := Lib.hid hall
    have HW := Lib.hid hw
    have HLW := Lib.hid (((Later.rfl' W).alloc _).trans hw)
    clear B
    by_cases hlt : j < L
    · have hlt' : j < l.length := by rw [← HL.out]; exact hlt
      have HE' := HE.out
      rw [HL.out] at HE'
      obtain ⟨b, off, y0, y1, y2, y3, B1, n1, d1, B2, n2, d2, B3, n3, d3, rfl, hb, _, hx, e0, e1, e2, e3, e4, e5, e6⟩ := (HE'.later HLW.out).valAt hlt'
      have C := fun W' (hW' : Later wr W') => IH.out l[j] (List.getElem_mem hlt') (HM.out _ (List.getElem_mem hlt')) W' S _ (hx.later hW')
      have hel : elemB l[j] = (decide (y0 = 1) || (decide (y0 = 2) || decide (y0 = 3))) := by
        obtain ⟨xk, xn, xs, xt, xl, xc, xr, he⟩ := Vl.shape l[j]
        rw [he] at hx ⊢
        obtain ⟨_, _, _, _, _, _, ee, _⟩ := hx.val
        simp only [List.cons.injEq, Value.int.injEq, true_and] at ee
        rw [ee.1]
        rfl
      obtain ⟨q2, hq2⟩ : ∃ q, q = l[j].valid := ⟨_, rfl⟩
      simp only [← hq2] at C
      have HQ2 := Lib.hid hq2
      have HCC := Lib.hid C
      have HEL := Lib.hid hel
      clear hx C hq2 hall hw hel HE' a0 a1 a2 a3 a4 a5 a6 hz
      by_cases ky : y0 = 1
      · have f1 : (y0 != 1) = false := by simp [ky]
        have HE1 : Hid (elemB l[j] = true) := by unfold Hid; rw [HEL.out]; simp [ky]
        clear ky
        cases q2 with
        | false =>
          have HF : Hid (q = false) := by unfold Hid; rw [HQ.out]; unfold listB; rw [valids_false (l := l) (k := j) hlt' (by rw [HE1.out, ← HQ2.out]; rfl)]; simp
          go_wp2_with fail
          refine (HCC.out _ ((Later.rfl' _).alloc _)).mono ?_; rintro e w1 ⟨rfl, hb1⟩
          go_wp2_with fail
          go_ret
          exact ⟨ret_bool HF.out.symm, (HLW.out.alloc _).trans hb1⟩
        | true =>
          go_wp2_with fail
          refine (HCC.out _ ((Later.rfl' _).alloc _)).mono ?_; rintro e w1 ⟨rfl, hb1⟩
          go_wp2_with fail
          go_roundw
          case rel => exact ⟨j + 1, by omega, by go_num, fun k hk hkj => if e : k = j then by subst e; exact ⟨HE1.out, HQ2.out.symm⟩ else HA.out k hk (by omega), HW.out.trans (((Later.rfl' _).alloc _).trans hb1)⟩
          case measure => simp [intOf]; omega
      have ky1 := ky
      clear ky
      by_cases ky : y0 = 2
      · have f1 : (y0 != 1) = true := by simp [ky]
        have f2 : (y0 != 2) = false := by simp [ky]
        have HE1 : Hid (elemB l[j] = true) := by unfold Hid; rw [HEL.out]; simp [ky]
        clear ky ky1
        cases q2 with
        | false =>
          have HF : Hid (q = false) := by unfold Hid; rw [HQ.out]; unfold listB; rw [valids_false (l := l) (k := j) hlt' (by rw [HE1.out, ← HQ2.out]; rfl)]; simp
          go_wp2_with fail
          refine (HCC.out _ ((Later.rfl' _).alloc _)).mono ?_; rintro e w1 ⟨rfl, hb1⟩
          go_wp2_with fail
          go_ret
          exact ⟨ret_bool HF.out.symm, (HLW.out.alloc _).trans hb1⟩
        | true =>
          go_wp2_with fail
          refine (HCC.out _ ((Later.rfl' _).alloc _)).mono ?_; rintro e w1 ⟨rfl, hb1⟩
          go_wp2_with fail
          go_roundw
          case rel => exact ⟨j + 1, by omega, by go_num, fun k hk hkj => if e : k = j then by subst e; exact ⟨HE1.out, HQ2.out.symm⟩ else HA.out k hk (by omega), HW.out.trans (((Later.rfl' _).alloc _).trans hb1)⟩
          case measure => simp [intOf]; omega
      have ky2 := ky
      clear ky
      by_cases ky : y0 = 3
      · have f1 : (y0 != 1) = true := by simp [ky]
        have f2 : (y0 != 2) = true := by simp [ky]
        have f3 : (y0 != 3) = false := by simp [ky]
        have HE1 : Hid (elemB l[j] = true) := by unfold Hid; rw [HEL.out]; simp [ky]
        clear ky ky1 ky2
        cases q2 with
        | false =>
          have HF : Hid (q = false) := by unfold Hid; rw [HQ.out]; unfold listB; rw [valids_false (l := l) (k := j) hlt' (by rw [HE1.out, ← HQ2.out]; rfl)]; simp
          go_wp2_with fail
          refine (HCC.out _ ((Later.rfl' _).alloc _)).mono ?_; rintro e w1 ⟨rfl, hb1⟩
          go_wp2_with fail
          go_ret
          exact ⟨ret_bool HF.out.symm, (HLW.out.alloc _).trans hb1⟩
        | true =>
          go_wp2_with fail
          refine (HCC.out _ ((Later.rfl' _).alloc _)).mono ?_; rintro e w1 ⟨rfl, hb1⟩
          go_wp2_with fail
          go_roundw
          case rel => exact ⟨j + 1, by omega, by go_num, fun k hk hkj => if e : k = j then by subst e; exact ⟨HE1.out, HQ2.out.symm⟩ else HA.out k hk (by omega), HW.out.trans (((Later.rfl' _).alloc _).trans hb1)⟩
          case measure => simp [intOf]; omega
      have ky3 := ky
      clear ky
      have HF : Hid (q = false) := by unfold Hid; rw [HQ.out]; unfold listB; rw [valids_false (l := l) (k := j) hlt' (by rw [HEL.out]; simp [ky1, ky2, ky3])]; simp
      have f1 : (y0 != 1) = true := by simpa using ky1
      have f2 : (y0 != 2) = true := by simpa using ky2
      have f3 : (y0 != 3) = true := by simpa using ky3
      clear ky1 ky2 ky3
      go_wp2_with fail
      go_ret
      exact ⟨ret_bool HF.out.symm, HLW.out.alloc _⟩
    · have HV : Hid (q = ((decide (n = 0) && (decide (s = 0) && (decide (t.toList = []) && (decide (C = 0) && decide (R = 0))))) && (decide (L ≤ 8) && decide (D ≤ 2)))) := by
        unfold Hid; rw [HQ.out]; unfold listB
        rw [valids_true fun k hk => HA.out k hk (by have := HL.out; omega), HD.out, ← HL.out]; simp
      clear hall hw HA
      by_cases hn : n = 0
      rotate_left
      · have HF : Hid (q = false) := by unfold Hid; rw [HV.out]; simp [hn]
        have jn : (n == 0) = false := by simpa using hn
        clear hn
        go_wp2_with fail
        go_ret
        exact ⟨ret_bool HF.out.symm, HLW.out⟩
      subst hn
      by_cases hs : s = 0
      rotate_left
      · have HF : Hid (q = false) := by unfold Hid; rw [HV.out]; simp [hs]
        have js : (s == 0) = false := by simpa using hs
        clear hs
        go_wp2_with fail
        go_ret
        exact ⟨ret_bool HF.out.symm, HLW.out⟩
      subst hs
      by_cases ht : t.toList = []
      rotate_left
      · have HF : Hid (q = false) := by unfold Hid; rw [HV.out]; simp [ht]
        have jt : (t.toList == []) = false := by simpa using ht
        clear ht
        go_wp2_with fail
        go_ret
        exact ⟨ret_bool HF.out.symm, HLW.out⟩
      skip
      by_cases h8 : L ≤ 8
      rotate_left
      · have HF : Hid (q = false) := by unfold Hid; rw [HV.out]; simp [h8]
        have j8 : decide ((L : Int) ≤ 8) = false := by simp; omega
        clear h8
        go_wp2_with fail
        go_ret
        exact ⟨ret_bool HF.out.symm, HLW.out⟩
      have j8 : decide ((L : Int) ≤ 8) = true := by simp; omega
      have HF : Hid (q = decide (D ≤ 2)) := by unfold Hid; rw [HV.out]; simp [HZC.out, HZR.out, ht, h8]
      clear h8
      by_cases hD2 : D ≤ 2
      · have hd : decide (((D + 1 : Nat) : Int) ≤ 3) = true := by simp; omega
        have HG : Hid (q = true) := by unfold Hid; rw [HF.out]; simp [hD2]
        clear hD2
        go_wp2_with fail
        refine (HCD.out _ HLW.out).mono ?_; rintro e w1 ⟨rfl, hb1⟩
        go_wp2_with fail
        all_goals
          go_ret
          exact ⟨ret_bool (by rw [HG.out]; first | rfl | exact hd.symm | (simp at hd ⊢; omega)), HLW.out.trans hb1⟩
      · have hd : decide (((D + 1 : Nat) : Int) ≤ 3) = false := by simp; omega
        have HG : Hid (q = false) := by unfold Hid; rw [HF.out]; simp [hD2]
        clear hD2
        go_wp2_with fail
        refine (HCD.out _ HLW.out).mono ?_; rintro e w1 ⟨rfl, hb1⟩
        go_wp2_with fail
        all_goals
          go_ret
          exact ⟨ret_bool (by rw [HG.out]; first | rfl | exact hd.symm | (simp at hd ⊢; omega)), HLW.out.trans hb1⟩
end Go.Proofs.Ytghemlokpfipoaa
namespace Go.Proofs.Ytghemlokpfipoaa
theorem implValid3 (k n s : Int) (t : ByteArray) (l : List Vl) (cl : List ByteArray) (r : List Rw) (ih : ∀ x, x ∈ l → ValidQ 18 x) (k3 : k = 3) : ValidQ 18 (.mk k n s t l cl r) := by
  by_cases h1 : l.length = 0
  · by_cases h2 : cl.length = 0
    · by_cases h3 : r.length = 0
      · exact implValid3d k n s t l cl r ih k3 h1 h2 h3
      · exact implValid3c k n s t l cl r ih k3 h1 h2 h3
    · exact implValid3b k n s t l cl r ih k3 h1 h2
  · exact implValid3a k n s t l cl r ih k3 h1
end Go.Proofs.Ytghemlokpfipoaa
namespace Go.Proofs.Ytghemlokpfipoaa
open Go.ChangeShapes Go.WideShapes Go.ChangeAt Go.RowKit
set_option linter.unusedVariables false
set_option linter.unusedSimpArgs false
set_option maxRecDepth 100000

set_option maxHeartbeats 4000000 in
theorem implValid : ∀ d, ValidQ 18 d := by
  refine Vl.ind fun k n s t l cl r ih hcost W S cs h => ?_
  by_cases k3 : k = 3
  · exact implValid3 k n s t l cl r ih k3 hcost W S cs h
  have CD := fun W' (hW' : Later W W') => implDepthOf (.mk k n s t l cl r) hcost W' S cs (h.later hW')
  rw [Vl.depth] at CD
  have CT := fun W' (hW' : Later W W') => implTable k n s t l cl r W' S cs (h.later hW')
  have CL := fun W' (hW' : Later W W') => implTable k n s t l cl r W' S cs (h.later hW')
  obtain ⟨A1, c1, A2, c2, A3, c3, rfl, hb4, ⟨p1, q1⟩, ⟨p2, q2⟩, ⟨p3, q3⟩, g1, g2, g3⟩ := h.val
  have CX := fun W' => implIsValidText t W' (by simp only [maxLen]; omega)
  have CN := fun W' => implNumV n _ rfl W'
  have CS := fun W' => implNumV s _ rfl W'
  have hm1 : ∀ x, x ∈ l → Vl.cost x ≤ 1099511627776 := fun x hx => by rw [Vl.cost_mk] at hcost; have := sumN_mem Vl.cost hx; omega
  have bl : l.length ≤ 1099511627776 := by rw [Vl.cost_mk] at hcost; omega
  have bc : cl.length ≤ 1099511627776 := by rw [Vl.cost_mk] at hcost; unfold costS at hcost; omega
  have br : r.length ≤ 1099511627776 := by rw [Vl.cost_mk] at hcost; omega
  obtain ⟨q, hq⟩ : ∃ q, q = Vl.valid (.mk k n s t l cl r) := ⟨_, rfl⟩
  rw [← hq]
  rw [Vl.valid] at hq
  have hlb : (Vl.valids l && (decide (l.length ≤ 8) && decide (Vl.depths l ≤ 2))) = listB l := rfl
  rw [hlb] at hq
  clear hlb h g2 g3 hcost hb4
  obtain ⟨L, hL⟩ : ∃ L, L = l.length := ⟨_, rfl⟩
  obtain ⟨C, hC⟩ : ∃ L, L = cl.length := ⟨_, rfl⟩
  obtain ⟨R, hR⟩ : ∃ L, L = r.length := ⟨_, rfl⟩
  simp only [← hL, ← hC, ← hR] at CL CT CD hq bl bc br p1 p2 p3 g1 ⊢
  have HE := Lib.hid g1
  have HCL := Lib.hid CL; have HCT := Lib.hid CT; have HCX := Lib.hid CX; have HCN := Lib.hid CN; have HCS := Lib.hid CS; have HCD := Lib.hid CD
  have IH := Lib.hid ih; have HM := Lib.hid hm1; have HL := Lib.hid hL; have HC := Lib.hid hC; have HR := Lib.hid hR; have HQ := Lib.hid hq
  clear CL CT CX CN CS CD ih hm1 g1 hL hC hR hq
  by_cases k1 : k = 1
  · subst k1
    clear k3
    by_cases hL : L = 0
    rotate_left
    · have iL : (0 : Int) < (L : Int) := by omega
      have jL : ((L : Int) == 0) = false := by simpa using hL
      have HV : Hid (q = false) := by unfold Hid; rw [HQ.out]; simp [hL]
      clear hL
      go_enter Try.func18, Try.ntmps18
      go_wp2_with fail
      all_goals
        go_ret
        first | exact ⟨ret_bool (by rw [HV.out]; simp [*]), (Later.rfl' _).alloc _⟩ | exact ⟨ret_bool (by rw [HV.out]; simp [*]), ((Later.rfl' _).alloc _).trans hb1⟩ | exact ⟨ret_bool (by rw [HV.out]), (Later.rfl' _).alloc _⟩ | exact ⟨ret_bool (by rw [HV.out]), ((Later.rfl' _).alloc _).trans hb1⟩
    subst hL
    by_cases hC : C = 0
    rotate_left
    · have iC : (0 : Int) < (C : Int) := by omega
      have jC : ((C : Int) == 0) = false := by simpa using hC
      have HV : Hid (q = false) := by unfold Hid; rw [HQ.out]; simp [hC]
      clear hC
      go_enter Try.func18, Try.ntmps18
      go_wp2_with fail
      all_goals
        go_ret
        first | exact ⟨ret_bool (by rw [HV.out]; simp [*]), (Later.rfl' _).alloc _⟩ | exact ⟨ret_bool (by rw [HV.out]; simp [*]), ((Later.rfl' _).alloc _).trans hb1⟩ | exact ⟨ret_bool (by rw [HV.out]), (Later.rfl' _).alloc _⟩ | exact ⟨ret_bool (by rw [HV.out]), ((Later.rfl' _).alloc _).trans hb1⟩
    subst hC
    by_cases hR : R = 0
    rotate_left
    · have iR : (0 : Int) < (R : Int) := by omega
      have jR : ((R : Int) == 0) = false := by simpa using hR
      have HV : Hid (q = false) := by unfold Hid; rw [HQ.out]; simp [hR]
      clear hR
      go_enter Try.func18, Try.ntmps18
      go_wp2_with fail
      all_goals
        go_ret
        first | exact ⟨ret_bool (by rw [HV.out]; simp [*]), (Later.rfl' _).alloc _⟩ | exact ⟨ret_bool (by rw [HV.out]; simp [*]), ((Later.rfl' _).alloc _).trans hb1⟩ | exact ⟨ret_bool (by rw [HV.out]), (Later.rfl' _).alloc _⟩ | exact ⟨ret_bool (by rw [HV.out]), ((Later.rfl' _).alloc _).trans hb1⟩
    subst hR
    by_cases hs : s = 0
    rotate_left
    · have js : (s != 0) = true := by simpa using hs
      have js' : (s == 0) = false := by simpa using hs
      have HV : Hid (q = false) := by unfold Hid; rw [HQ.out]; simp [hs]
      clear hs
      go_enter Try.func18, Try.ntmps18
      go_wp2_with fail
      all_goals
        go_ret
        first | exact ⟨ret_bool (by rw [HV.out]; simp [*]), (Later.rfl' _).alloc _⟩ | exact ⟨ret_bool (by rw [HV.out]; simp [*]), ((Later.rfl' _).alloc _).trans hb1⟩ | exact ⟨ret_bool (by rw [HV.out]), (Later.rfl' _).alloc _⟩ | exact ⟨ret_bool (by rw [HV.out]), ((Later.rfl' _).alloc _).trans hb1⟩
    subst hs
    by_cases ht : t.toList = []
    rotate_left
    · have jt : (t.toList == []) = false := by simpa using ht
      have HV : Hid (q = false) := by unfold Hid; rw [HQ.out]; simp [ht]
      go_enter Try.func18, Try.ntmps18
      go_wp2_with fail
      all_goals
        go_ret
        first | exact ⟨ret_bool (by rw [HV.out]; simp [*]), (Later.rfl' _).alloc _⟩ | exact ⟨ret_bool (by rw [HV.out]; simp [*]), ((Later.rfl' _).alloc _).trans hb1⟩ | exact ⟨ret_bool (by rw [HV.out]), (Later.rfl' _).alloc _⟩ | exact ⟨ret_bool (by rw [HV.out]), ((Later.rfl' _).alloc _).trans hb1⟩
    skip
    have HV : Hid (q = numV n) := by unfold Hid; rw [HQ.out]; simp [ht]
    go_enter Try.func18, Try.ntmps18
    go_wp2_with (go_at_call 66; refine (HCN.out _).mono ?_; rintro e w1 ⟨rfl, rfl⟩)
    all_goals
      go_ret
      first | exact ⟨ret_bool (by rw [HV.out]; simp [*]), (Later.rfl' _).alloc _⟩ | exact ⟨ret_bool (by rw [HV.out]; simp [*]), ((Later.rfl' _).alloc _).trans hb1⟩ | exact ⟨ret_bool (by rw [HV.out]), (Later.rfl' _).alloc _⟩ | exact ⟨ret_bool (by rw [HV.out]), ((Later.rfl' _).alloc _).trans hb1⟩
  by_cases k2 : k = 2
  · subst k2
    clear k3
    clear k1
    by_cases hL : L = 0
    rotate_left
    · have iL : (0 : Int) < (L : Int) := by omega
      have jL : ((L : Int) == 0) = false := by simpa using hL
      have HV : Hid (q = false) := by unfold Hid; rw [HQ.out]; simp [hL]
      clear hL
      go_enter Try.func18, Try.ntmps18
      go_wp2_with fail
      all_goals
        go_ret
        first | exact ⟨ret_bool (by rw [HV.out]; simp [*]), (Later.rfl' _).alloc _⟩ | exact ⟨ret_bool (by rw [HV.out]; simp [*]), ((Later.rfl' _).alloc _).trans hb1⟩ | exact ⟨ret_bool (by rw [HV.out]), (Later.rfl' _).alloc _⟩ | exact ⟨ret_bool (by rw [HV.out]), ((Later.rfl' _).alloc _).trans hb1⟩
    subst hL
    by_cases hC : C = 0
    rotate_left
    · have iC : (0 : Int) < (C : Int) := by omega
      have jC : ((C : Int) == 0) = false := by simpa using hC
      have HV : Hid (q = false) := by unfold Hid; rw [HQ.out]; simp [hC]
      clear hC
      go_enter Try.func18, Try.ntmps18
      go_wp2_with fail
      all_goals
        go_ret
        first | exact ⟨ret_bool (by rw [HV.out]; simp [*]), (Later.rfl' _).alloc _⟩ | exact ⟨ret_bool (by rw [HV.out]; simp [*]), ((Later.rfl' _).alloc _).trans hb1⟩ | exact ⟨ret_bool (by rw [HV.out]), (Later.rfl' _).alloc _⟩ | exact ⟨ret_bool (by rw [HV.out]), ((Later.rfl' _).alloc _).trans hb1⟩
    subst hC
    by_cases hR : R = 0
    rotate_left
    · have iR : (0 : Int) < (R : Int) := by omega
      have jR : ((R : Int) == 0) = false := by simpa using hR
      have HV : Hid (q = false) := by unfold Hid; rw [HQ.out]; simp [hR]
      clear hR
      go_enter Try.func18, Try.ntmps18
      go_wp2_with fail
      all_goals
        go_ret
        first | exact ⟨ret_bool (by rw [HV.out]; simp [*]), (Later.rfl' _).alloc _⟩ | exact ⟨ret_bool (by rw [HV.out]; simp [*]), ((Later.rfl' _).alloc _).trans hb1⟩ | exact ⟨ret_bool (by rw [HV.out]), (Later.rfl' _).alloc _⟩ | exact ⟨ret_bool (by rw [HV.out]), ((Later.rfl' _).alloc _).trans hb1⟩
    subst hR
    by_cases hn : n = 0
    rotate_left
    · have jn : (n == 0) = false := by simpa using hn
      have HV : Hid (q = false) := by unfold Hid; rw [HQ.out]; simp [hn]
      clear hn
      go_enter Try.func18, Try.ntmps18
      go_wp2_with fail
      all_goals
        go_ret
        first | exact ⟨ret_bool (by rw [HV.out]; simp [*]), (Later.rfl' _).alloc _⟩ | exact ⟨ret_bool (by rw [HV.out]; simp [*]), ((Later.rfl' _).alloc _).trans hb1⟩ | exact ⟨ret_bool (by rw [HV.out]), (Later.rfl' _).alloc _⟩ | exact ⟨ret_bool (by rw [HV.out]), ((Later.rfl' _).alloc _).trans hb1⟩
    subst hn
    by_cases hs : s = 0
    rotate_left
    · have js : (s != 0) = true := by simpa using hs
      have js' : (s == 0) = false := by simpa using hs
      have HV : Hid (q = false) := by unfold Hid; rw [HQ.out]; simp [hs]
      clear hs
      go_enter Try.func18, Try.ntmps18
      go_wp2_with fail
      all_goals
        go_ret
        first | exact ⟨ret_bool (by rw [HV.out]; simp [*]), (Later.rfl' _).alloc _⟩ | exact ⟨ret_bool (by rw [HV.out]; simp [*]), ((Later.rfl' _).alloc _).trans hb1⟩ | exact ⟨ret_bool (by rw [HV.out]), (Later.rfl' _).alloc _⟩ | exact ⟨ret_bool (by rw [HV.out]), ((Later.rfl' _).alloc _).trans hb1⟩
    subst hs
    have HV : Hid (q = validText t) := by unfold Hid; rw [HQ.out]; simp
    go_enter Try.func18, Try.ntmps18
    go_wp2_with (go_at_call 67; refine (HCX.out _).mono ?_; rintro e w1 ⟨rfl, hb1⟩)
    all_goals
      go_ret
      first | exact ⟨ret_bool (by rw [HV.out]; simp [*]), (Later.rfl' _).alloc _⟩ | exact ⟨ret_bool (by rw [HV.out]; simp [*]), ((Later.rfl' _).alloc _).trans hb1⟩ | exact ⟨ret_bool (by rw [HV.out]), (Later.rfl' _).alloc _⟩ | exact ⟨ret_bool (by rw [HV.out]), ((Later.rfl' _).alloc _).trans hb1⟩
  by_cases k4 : k = 4
  · subst k4
    clear k3
    clear k1
    clear k2
    by_cases hL : L = 0
    rotate_left
    · have iL : (0 : Int) < (L : Int) := by omega
      have jL : ((L : Int) == 0) = false := by simpa using hL
      have HV : Hid (q = false) := by unfold Hid; rw [HQ.out]; simp [hL]
      clear hL
      go_enter Try.func18, Try.ntmps18
      go_wp2_with fail
      all_goals
        go_ret
        first | exact ⟨ret_bool (by rw [HV.out]; simp [*]), (Later.rfl' _).alloc _⟩ | exact ⟨ret_bool (by rw [HV.out]; simp [*]), ((Later.rfl' _).alloc _).trans hb1⟩ | exact ⟨ret_bool (by rw [HV.out]), (Later.rfl' _).alloc _⟩ | exact ⟨ret_bool (by rw [HV.out]), ((Later.rfl' _).alloc _).trans hb1⟩
    subst hL
    by_cases hC : C = 0
    rotate_left
    · have iC : (0 : Int) < (C : Int) := by omega
      have jC : ((C : Int) == 0) = false := by simpa using hC
      have HV : Hid (q = false) := by unfold Hid; rw [HQ.out]; simp [hC]
      clear hC
      go_enter Try.func18, Try.ntmps18
      go_wp2_with fail
      all_goals
        go_ret
        first | exact ⟨ret_bool (by rw [HV.out]; simp [*]), (Later.rfl' _).alloc _⟩ | exact ⟨ret_bool (by rw [HV.out]; simp [*]), ((Later.rfl' _).alloc _).trans hb1⟩ | exact ⟨ret_bool (by rw [HV.out]), (Later.rfl' _).alloc _⟩ | exact ⟨ret_bool (by rw [HV.out]), ((Later.rfl' _).alloc _).trans hb1⟩
    subst hC
    by_cases hR : R = 0
    rotate_left
    · have iR : (0 : Int) < (R : Int) := by omega
      have jR : ((R : Int) == 0) = false := by simpa using hR
      have HV : Hid (q = false) := by unfold Hid; rw [HQ.out]; simp [hR]
      clear hR
      go_enter Try.func18, Try.ntmps18
      go_wp2_with fail
      all_goals
        go_ret
        first | exact ⟨ret_bool (by rw [HV.out]; simp [*]), (Later.rfl' _).alloc _⟩ | exact ⟨ret_bool (by rw [HV.out]; simp [*]), ((Later.rfl' _).alloc _).trans hb1⟩ | exact ⟨ret_bool (by rw [HV.out]), (Later.rfl' _).alloc _⟩ | exact ⟨ret_bool (by rw [HV.out]), ((Later.rfl' _).alloc _).trans hb1⟩
    subst hR
    by_cases ht : t.toList = []
    rotate_left
    · have jt : (t.toList == []) = false := by simpa using ht
      have HV : Hid (q = false) := by unfold Hid; rw [HQ.out]; simp [ht]
      go_enter Try.func18, Try.ntmps18
      go_wp2_with fail
      all_goals
        go_ret
        first | exact ⟨ret_bool (by rw [HV.out]; simp [*]), (Later.rfl' _).alloc _⟩ | exact ⟨ret_bool (by rw [HV.out]; simp [*]), ((Later.rfl' _).alloc _).trans hb1⟩ | exact ⟨ret_bool (by rw [HV.out]), (Later.rfl' _).alloc _⟩ | exact ⟨ret_bool (by rw [HV.out]), ((Later.rfl' _).alloc _).trans hb1⟩
    skip
    have HV : Hid (q = (numV n && numV s)) := by unfold Hid; rw [HQ.out]; simp [ht]
    go_enter Try.func18, Try.ntmps18
    go_wp2_with (first | (go_at_call 66; (with_reducible refine (HCN.out _).mono ?_); rintro e w1 ⟨rfl, rfl⟩) | (go_at_call 66; (with_reducible refine (HCS.out _).mono ?_); rintro e w1 ⟨rfl, rfl⟩))
    all_goals
      go_ret
      first | exact ⟨ret_bool (by rw [HV.out]; simp [*]), (Later.rfl' _).alloc _⟩ | exact ⟨ret_bool (by rw [HV.out]; simp [*]), ((Later.rfl' _).alloc _).trans hb1⟩ | exact ⟨ret_bool (by rw [HV.out]), (Later.rfl' _).alloc _⟩ | exact ⟨ret_bool (by rw [HV.out]), ((Later.rfl' _).alloc _).trans hb1⟩
  by_cases k6 : k = 6
  · subst k6
    clear k3
    clear k1
    clear k2
    clear k4
    by_cases hL : L = 0
    rotate_left
    · have iL : (0 : Int) < (L : Int) := by omega
      have jL : ((L : Int) == 0) = false := by simpa using hL
      have HV : Hid (q = false) := by unfold Hid; rw [HQ.out]; simp [hL]
      clear hL
      go_enter Try.func18, Try.ntmps18
      go_wp2_with fail
      all_goals
        go_ret
        first | exact ⟨ret_bool (by rw [HV.out]; simp [*]), (Later.rfl' _).alloc _⟩ | exact ⟨ret_bool (by rw [HV.out]; simp [*]), ((Later.rfl' _).alloc _).trans hb1⟩ | exact ⟨ret_bool (by rw [HV.out]), (Later.rfl' _).alloc _⟩ | exact ⟨ret_bool (by rw [HV.out]), ((Later.rfl' _).alloc _).trans hb1⟩
    subst hL
    by_cases hC : C = 0
    rotate_left
    · have iC : (0 : Int) < (C : Int) := by omega
      have jC : ((C : Int) == 0) = false := by simpa using hC
      have HV : Hid (q = false) := by unfold Hid; rw [HQ.out]; simp [hC]
      clear hC
      go_enter Try.func18, Try.ntmps18
      go_wp2_with fail
      all_goals
        go_ret
        first | exact ⟨ret_bool (by rw [HV.out]; simp [*]), (Later.rfl' _).alloc _⟩ | exact ⟨ret_bool (by rw [HV.out]; simp [*]), ((Later.rfl' _).alloc _).trans hb1⟩ | exact ⟨ret_bool (by rw [HV.out]), (Later.rfl' _).alloc _⟩ | exact ⟨ret_bool (by rw [HV.out]), ((Later.rfl' _).alloc _).trans hb1⟩
    subst hC
    by_cases hR : R = 0
    rotate_left
    · have iR : (0 : Int) < (R : Int) := by omega
      have jR : ((R : Int) == 0) = false := by simpa using hR
      have HV : Hid (q = false) := by unfold Hid; rw [HQ.out]; simp [hR]
      clear hR
      go_enter Try.func18, Try.ntmps18
      go_wp2_with fail
      all_goals
        go_ret
        first | exact ⟨ret_bool (by rw [HV.out]; simp [*]), (Later.rfl' _).alloc _⟩ | exact ⟨ret_bool (by rw [HV.out]; simp [*]), ((Later.rfl' _).alloc _).trans hb1⟩ | exact ⟨ret_bool (by rw [HV.out]), (Later.rfl' _).alloc _⟩ | exact ⟨ret_bool (by rw [HV.out]), ((Later.rfl' _).alloc _).trans hb1⟩
    subst hR
    by_cases hs : s = 0
    rotate_left
    · have js : (s != 0) = true := by simpa using hs
      have js' : (s == 0) = false := by simpa using hs
      have HV : Hid (q = false) := by unfold Hid; rw [HQ.out]; simp [hs]
      clear hs
      go_enter Try.func18, Try.ntmps18
      go_wp2_with fail
      all_goals
        go_ret
        first | exact ⟨ret_bool (by rw [HV.out]; simp [*]), (Later.rfl' _).alloc _⟩ | exact ⟨ret_bool (by rw [HV.out]; simp [*]), ((Later.rfl' _).alloc _).trans hb1⟩ | exact ⟨ret_bool (by rw [HV.out]), (Later.rfl' _).alloc _⟩ | exact ⟨ret_bool (by rw [HV.out]), ((Later.rfl' _).alloc _).trans hb1⟩
    subst hs
    by_cases ht : t.toList = []
    rotate_left
    · have jt : (t.toList == []) = false := by simpa using ht
      have HV : Hid (q = false) := by unfold Hid; rw [HQ.out]; simp [ht]
      go_enter Try.func18, Try.ntmps18
      go_wp2_with fail
      all_goals
        go_ret
        first | exact ⟨ret_bool (by rw [HV.out]; simp [*]), (Later.rfl' _).alloc _⟩ | exact ⟨ret_bool (by rw [HV.out]; simp [*]), ((Later.rfl' _).alloc _).trans hb1⟩ | exact ⟨ret_bool (by rw [HV.out]), (Later.rfl' _).alloc _⟩ | exact ⟨ret_bool (by rw [HV.out]), ((Later.rfl' _).alloc _).trans hb1⟩
    skip
    have HV : Hid (q = (decide (1 ≤ n) && decide (n ≤ 8))) := by unfold Hid; rw [HQ.out]; simp [ht]
    go_enter Try.func18, Try.ntmps18
    go_wp2_with (go_at_call 68; refine (implIn n 1 8 _ rfl _).mono ?_; rintro e w1 ⟨rfl, rfl⟩)
    all_goals
      go_ret
      first | exact ⟨ret_bool (by rw [HV.out]; simp [*]), (Later.rfl' _).alloc _⟩ | exact ⟨ret_bool (by rw [HV.out]; simp [*]), ((Later.rfl' _).alloc _).trans hb1⟩ | exact ⟨ret_bool (by rw [HV.out]), (Later.rfl' _).alloc _⟩ | exact ⟨ret_bool (by rw [HV.out]), ((Later.rfl' _).alloc _).trans hb1⟩
  by_cases k5 : k = 5
  · subst k5
    clear k1 k2 k4 k6 k3
    by_cases hL : L = 0
    rotate_left
    · have iL : (0 : Int) < (L : Int) := by omega
      have jL : ((L : Int) == 0) = false := by simpa using hL
      by_cases hn : n = 0
      rotate_left
      · have jn : (n == 0) = false := by simpa using hn
        have HV : Hid (q = false) := by unfold Hid; rw [HQ.out]; simp [hn]
        clear hn
        go_enter Try.func18, Try.ntmps18
        go_wp2_with fail
        all_goals
          go_ret
          first | exact ⟨ret_bool (by rw [HV.out]; simp [*]), (Later.rfl' _).alloc _⟩ | exact ⟨ret_bool (by rw [HV.out]; simp [*]), ((Later.rfl' _).alloc _).trans hb1⟩ | exact ⟨ret_bool (by rw [HV.out]), (Later.rfl' _).alloc _⟩ | exact ⟨ret_bool (by rw [HV.out]), ((Later.rfl' _).alloc _).trans hb1⟩
      subst hn
      by_cases hs : s = 0
      rotate_left
      · have js : (s != 0) = true := by simpa using hs
        have js' : (s == 0) = false := by simpa using hs
        have HV : Hid (q = false) := by unfold Hid; rw [HQ.out]; simp [hs]
        clear hs
        go_enter Try.func18, Try.ntmps18
        go_wp2_with fail
        all_goals
          go_ret
          first | exact ⟨ret_bool (by rw [HV.out]; simp [*]), (Later.rfl' _).alloc _⟩ | exact ⟨ret_bool (by rw [HV.out]; simp [*]), ((Later.rfl' _).alloc _).trans hb1⟩ | exact ⟨ret_bool (by rw [HV.out]), (Later.rfl' _).alloc _⟩ | exact ⟨ret_bool (by rw [HV.out]), ((Later.rfl' _).alloc _).trans hb1⟩
      subst hs
      by_cases ht : t.toList = []
      rotate_left
      · have jt : (t.toList == []) = false := by simpa using ht
        have HV : Hid (q = false) := by unfold Hid; rw [HQ.out]; simp [ht]
        go_enter Try.func18, Try.ntmps18
        go_wp2_with fail
        all_goals
          go_ret
          first | exact ⟨ret_bool (by rw [HV.out]; simp [*]), (Later.rfl' _).alloc _⟩ | exact ⟨ret_bool (by rw [HV.out]; simp [*]), ((Later.rfl' _).alloc _).trans hb1⟩ | exact ⟨ret_bool (by rw [HV.out]), (Later.rfl' _).alloc _⟩ | exact ⟨ret_bool (by rw [HV.out]), ((Later.rfl' _).alloc _).trans hb1⟩
      skip
      have HV : Hid (q = false) := by unfold Hid; rw [HQ.out]; simp [hL, ht]
      clear hL
      go_enter Try.func18, Try.ntmps18
      go_wp2_with fail
      all_goals
        go_ret
        first | exact ⟨ret_bool (by rw [HV.out]; simp [*]), (Later.rfl' _).alloc _⟩ | exact ⟨ret_bool (by rw [HV.out]; simp [*]), ((Later.rfl' _).alloc _).trans hb1⟩ | exact ⟨ret_bool (by rw [HV.out]), (Later.rfl' _).alloc _⟩ | exact ⟨ret_bool (by rw [HV.out]), ((Later.rfl' _).alloc _).trans hb1⟩
    subst hL
    by_cases hC : C = 0
    rotate_left
    · have iC : (0 : Int) < (C : Int) := by omega
      have jC : ((C : Int) == 0) = false := by simpa using hC
      by_cases hn : n = 0
      rotate_left
      · have jn : (n == 0) = false := by simpa using hn
        have HV : Hid (q = false) := by unfold Hid; rw [HQ.out]; simp [hn]
        clear hn
        go_enter Try.func18, Try.ntmps18
        go_wp2_with fail
        all_goals
          go_ret
          first | exact ⟨ret_bool (by rw [HV.out]; simp [*]), (Later.rfl' _).alloc _⟩ | exact ⟨ret_bool (by rw [HV.out]; simp [*]), ((Later.rfl' _).alloc _).trans hb1⟩ | exact ⟨ret_bool (by rw [HV.out]), (Later.rfl' _).alloc _⟩ | exact ⟨ret_bool (by rw [HV.out]), ((Later.rfl' _).alloc _).trans hb1⟩
      subst hn
      by_cases hs : s = 0
      rotate_left
      · have js : (s != 0) = true := by simpa using hs
        have js' : (s == 0) = false := by simpa using hs
        have HV : Hid (q = false) := by unfold Hid; rw [HQ.out]; simp [hs]
        clear hs
        go_enter Try.func18, Try.ntmps18
        go_wp2_with fail
        all_goals
          go_ret
          first | exact ⟨ret_bool (by rw [HV.out]; simp [*]), (Later.rfl' _).alloc _⟩ | exact ⟨ret_bool (by rw [HV.out]; simp [*]), ((Later.rfl' _).alloc _).trans hb1⟩ | exact ⟨ret_bool (by rw [HV.out]), (Later.rfl' _).alloc _⟩ | exact ⟨ret_bool (by rw [HV.out]), ((Later.rfl' _).alloc _).trans hb1⟩
      subst hs
      by_cases ht : t.toList = []
      rotate_left
      · have jt : (t.toList == []) = false := by simpa using ht
        have HV : Hid (q = false) := by unfold Hid; rw [HQ.out]; simp [ht]
        go_enter Try.func18, Try.ntmps18
        go_wp2_with fail
        all_goals
          go_ret
          first | exact ⟨ret_bool (by rw [HV.out]; simp [*]), (Later.rfl' _).alloc _⟩ | exact ⟨ret_bool (by rw [HV.out]; simp [*]), ((Later.rfl' _).alloc _).trans hb1⟩ | exact ⟨ret_bool (by rw [HV.out]), (Later.rfl' _).alloc _⟩ | exact ⟨ret_bool (by rw [HV.out]), ((Later.rfl' _).alloc _).trans hb1⟩
      skip
      have HV : Hid (q = tableB cl r) := by unfold Hid; rw [HQ.out]; simp [ht]
      go_enter Try.func18, Try.ntmps18
      go_wp2_with (go_at_call 69; refine (HCT.out _ ((Later.rfl' _).alloc _)).mono ?_; rintro e w1 ⟨rfl, hb1⟩)
      all_goals
        go_ret
        first | exact ⟨ret_bool (by rw [HV.out]; simp [*]), (Later.rfl' _).alloc _⟩ | exact ⟨ret_bool (by rw [HV.out]; simp [*]), ((Later.rfl' _).alloc _).trans hb1⟩ | exact ⟨ret_bool (by rw [HV.out]), (Later.rfl' _).alloc _⟩ | exact ⟨ret_bool (by rw [HV.out]), ((Later.rfl' _).alloc _).trans hb1⟩
    subst hC
    by_cases hR : R = 0
    rotate_left
    · have iR : (0 : Int) < (R : Int) := by omega
      have jR : ((R : Int) == 0) = false := by simpa using hR
      by_cases hn : n = 0
      rotate_left
      · have jn : (n == 0) = false := by simpa using hn
        have HV : Hid (q = false) := by unfold Hid; rw [HQ.out]; simp [hn]
        clear hn
        go_enter Try.func18, Try.ntmps18
        go_wp2_with fail
        all_goals
          go_ret
          first | exact ⟨ret_bool (by rw [HV.out]; simp [*]), (Later.rfl' _).alloc _⟩ | exact ⟨ret_bool (by rw [HV.out]; simp [*]), ((Later.rfl' _).alloc _).trans hb1⟩ | exact ⟨ret_bool (by rw [HV.out]), (Later.rfl' _).alloc _⟩ | exact ⟨ret_bool (by rw [HV.out]), ((Later.rfl' _).alloc _).trans hb1⟩
      subst hn
      by_cases hs : s = 0
      rotate_left
      · have js : (s != 0) = true := by simpa using hs
        have js' : (s == 0) = false := by simpa using hs
        have HV : Hid (q = false) := by unfold Hid; rw [HQ.out]; simp [hs]
        clear hs
        go_enter Try.func18, Try.ntmps18
        go_wp2_with fail
        all_goals
          go_ret
          first | exact ⟨ret_bool (by rw [HV.out]; simp [*]), (Later.rfl' _).alloc _⟩ | exact ⟨ret_bool (by rw [HV.out]; simp [*]), ((Later.rfl' _).alloc _).trans hb1⟩ | exact ⟨ret_bool (by rw [HV.out]), (Later.rfl' _).alloc _⟩ | exact ⟨ret_bool (by rw [HV.out]), ((Later.rfl' _).alloc _).trans hb1⟩
      subst hs
      by_cases ht : t.toList = []
      rotate_left
      · have jt : (t.toList == []) = false := by simpa using ht
        have HV : Hid (q = false) := by unfold Hid; rw [HQ.out]; simp [ht]
        go_enter Try.func18, Try.ntmps18
        go_wp2_with fail
        all_goals
          go_ret
          first | exact ⟨ret_bool (by rw [HV.out]; simp [*]), (Later.rfl' _).alloc _⟩ | exact ⟨ret_bool (by rw [HV.out]; simp [*]), ((Later.rfl' _).alloc _).trans hb1⟩ | exact ⟨ret_bool (by rw [HV.out]), (Later.rfl' _).alloc _⟩ | exact ⟨ret_bool (by rw [HV.out]), ((Later.rfl' _).alloc _).trans hb1⟩
      skip
      have HV : Hid (q = tableB cl r) := by unfold Hid; rw [HQ.out]; simp [ht]
      go_enter Try.func18, Try.ntmps18
      go_wp2_with (go_at_call 69; refine (HCT.out _ ((Later.rfl' _).alloc _)).mono ?_; rintro e w1 ⟨rfl, hb1⟩)
      all_goals
        go_ret
        first | exact ⟨ret_bool (by rw [HV.out]; simp [*]), (Later.rfl' _).alloc _⟩ | exact ⟨ret_bool (by rw [HV.out]; simp [*]), ((Later.rfl' _).alloc _).trans hb1⟩ | exact ⟨ret_bool (by rw [HV.out]), (Later.rfl' _).alloc _⟩ | exact ⟨ret_bool (by rw [HV.out]), ((Later.rfl' _).alloc _).trans hb1⟩
    subst hR
    by_cases hn : n = 0
    rotate_left
    · have jn : (n == 0) = false := by simpa using hn
      have HV : Hid (q = false) := by unfold Hid; rw [HQ.out]; simp [hn]
      clear hn
      go_enter Try.func18, Try.ntmps18
      go_wp2_with fail
      all_goals
        go_ret
        first | exact ⟨ret_bool (by rw [HV.out]; simp [*]), (Later.rfl' _).alloc _⟩ | exact ⟨ret_bool (by rw [HV.out]; simp [*]), ((Later.rfl' _).alloc _).trans hb1⟩ | exact ⟨ret_bool (by rw [HV.out]), (Later.rfl' _).alloc _⟩ | exact ⟨ret_bool (by rw [HV.out]), ((Later.rfl' _).alloc _).trans hb1⟩
    subst hn
    by_cases hs : s = 0
    rotate_left
    · have js : (s != 0) = true := by simpa using hs
      have js' : (s == 0) = false := by simpa using hs
      have HV : Hid (q = false) := by unfold Hid; rw [HQ.out]; simp [hs]
      clear hs
      go_enter Try.func18, Try.ntmps18
      go_wp2_with fail
      all_goals
        go_ret
        first | exact ⟨ret_bool (by rw [HV.out]; simp [*]), (Later.rfl' _).alloc _⟩ | exact ⟨ret_bool (by rw [HV.out]; simp [*]), ((Later.rfl' _).alloc _).trans hb1⟩ | exact ⟨ret_bool (by rw [HV.out]), (Later.rfl' _).alloc _⟩ | exact ⟨ret_bool (by rw [HV.out]), ((Later.rfl' _).alloc _).trans hb1⟩
    subst hs
    by_cases ht : t.toList = []
    rotate_left
    · have jt : (t.toList == []) = false := by simpa using ht
      have HV : Hid (q = false) := by unfold Hid; rw [HQ.out]; simp [ht]
      go_enter Try.func18, Try.ntmps18
      go_wp2_with fail
      all_goals
        go_ret
        first | exact ⟨ret_bool (by rw [HV.out]; simp [*]), (Later.rfl' _).alloc _⟩ | exact ⟨ret_bool (by rw [HV.out]; simp [*]), ((Later.rfl' _).alloc _).trans hb1⟩ | exact ⟨ret_bool (by rw [HV.out]), (Later.rfl' _).alloc _⟩ | exact ⟨ret_bool (by rw [HV.out]), ((Later.rfl' _).alloc _).trans hb1⟩
    skip
    have HV : Hid (q = tableB cl r) := by unfold Hid; rw [HQ.out]; simp [ht]
    go_enter Try.func18, Try.ntmps18
    go_wp2_with (go_at_call 69; refine (HCT.out _ ((Later.rfl' _).alloc _)).mono ?_; rintro e w1 ⟨rfl, hb1⟩)
    all_goals
      go_ret
      first | exact ⟨ret_bool (by rw [HV.out]; simp [*]), (Later.rfl' _).alloc _⟩ | exact ⟨ret_bool (by rw [HV.out]; simp [*]), ((Later.rfl' _).alloc _).trans hb1⟩ | exact ⟨ret_bool (by rw [HV.out]), (Later.rfl' _).alloc _⟩ | exact ⟨ret_bool (by rw [HV.out]), ((Later.rfl' _).alloc _).trans hb1⟩
  have hq := HQ.out
  simp only [k1, k2, k3, k4, k5, k6, if_false] at hq
  have HV := Lib.hid hq
  have e1 : (k == 1) = false := by simpa using k1
  have d1 : (k != 1) = true := by simpa using k1
  clear k1
  have e2 : (k == 2) = false := by simpa using k2
  have d2 : (k != 2) = true := by simpa using k2
  clear k2
  have e3 : (k == 3) = false := by simpa using k3
  have d3 : (k != 3) = true := by simpa using k3
  clear k3
  have e4 : (k == 4) = false := by simpa using k4
  have d4 : (k != 4) = true := by simpa using k4
  clear k4
  have e5 : (k == 5) = false := by simpa using k5
  have d5 : (k != 5) = true := by simpa using k5
  clear k5
  have e6 : (k == 6) = false := by simpa using k6
  have d6 : (k != 6) = true := by simpa using k6
  clear k6
  clear hq
  go_enter Try.func18, Try.ntmps18
  go_wp2_with fail
  all_goals
    go_ret
    exact ⟨ret_bool HV.out.symm, (Later.rfl' _).alloc _⟩
end Go.Proofs.Ytghemlokpfipoaa
