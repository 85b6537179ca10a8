/-
  Valid values: IsValidValue of the program: the walk.
-/
import Derived.Test.YtghemlokpfipoaaPart24
namespace Go.Proofs.Ytghemlokpfipoaa
open Go.ChangeShapes Go.WideShapes Go.ChangeAt Go.RowKit
set_option linter.unusedVariables false
set_option linter.unusedSimpArgs false
set_option maxRecDepth 100000

set_option maxHeartbeats 4000000 in
theorem implValid : ∀ d, ValidQ 18 d := by
  refine Vl.ind fun k n s t l cl r ih hcost W S cs h => ?_
  by_cases k3 : k = 3
  · exact implValid3 k n s t l cl r ih k3 hcost W S cs h
  have CD := fun W' (hW' : Later W W') => implDepthOf (.mk k n s t l cl r) hcost W' S cs (h.later hW')
  rw [Vl.depth] at CD
  have CT := fun W' (hW' : Later W W') => implTable k n s t l cl r W' S cs (h.later hW')
  have CL := fun W' (hW' : Later W W') => implTable k n s t l cl r W' S cs (h.later hW')
  obtain ⟨A1, c1, A2, c2, A3, c3, rfl, hb4, ⟨p1, q1⟩, ⟨p2, q2⟩, ⟨p3, q3⟩, g1, g2, g3⟩ := h.val
  have CX := fun W' => implIsValidText t W' (by simp only [maxLen]; omega)
  have CN := fun W' => implNumV n _ rfl W'
  have CS := fun W' => implNumV s _ rfl W'
  have hm1 : ∀ x, x ∈ l → Vl.cost x ≤ 1099511627776 := fun x hx => by rw [Vl.cost_mk] at hcost; have := sumN_mem Vl.cost hx; omega
  have bl : l.length ≤ 1099511627776 := by rw [Vl.cost_mk] at hcost; omega
  have bc : cl.length ≤ 1099511627776 := by rw [Vl.cost_mk] at hcost; unfold costS at hcost; omega
  have br : r.length ≤ 1099511627776 := by rw [Vl.cost_mk] at hcost; omega
  obtain ⟨q, hq⟩ : ∃ q, q = Vl.valid (.mk k n s t l cl r) := ⟨_, rfl⟩
  rw [← hq]
  rw [Vl.valid] at hq
  have hlb : (Vl.valids l && (decide (l.length ≤ 8) && decide (Vl.depths l ≤ 2))) = listB l := rfl
  rw [hlb] at hq
  clear hlb h g2 g3 hcost hb4
  obtain ⟨L, hL⟩ : ∃ L, L = l.length := ⟨_, rfl⟩
  obtain ⟨C, hC⟩ : ∃ L, L = cl.length := ⟨_, rfl⟩
  obtain ⟨R, hR⟩ : ∃ L, L = r.length := ⟨_, rfl⟩
  simp only [← hL, ← hC, ← hR] at CL CT CD hq bl bc br p1 p2 p3 g1 ⊢
  have HE := Lib.hid g1
  have HCL := Lib.hid CL; have HCT := Lib.hid CT; have HCX := Lib.hid CX; have HCN := Lib.hid CN; have HCS := Lib.hid CS; have HCD := Lib.hid CD
  have IH := Lib.hid ih; have HM := Lib.hid hm1; have HL := Lib.hid hL; have HC := Lib.hid hC; have HR := Lib.hid hR; have HQ := Lib.hid hq
  clear CL CT CX CN CS CD ih hm1 g1 hL hC hR hq
  by_cases k1 : k = 1
  · subst k1
    clear k3
    by_cases hL : L = 0
    rotate_left
    · have iL : (0 : Int) < (L : Int) := by omega
      have jL : ((L : Int) == 0) = false := by simpa using hL
      have HV : Hid (q = false) := by unfold Hid; rw [HQ.out]; simp [hL]
      clear hL
      go_enter Try.func18, Try.ntmps18
      go_wp2_with fail
      all_goals
        go_ret
        first | exact ⟨ret_bool (by rw [HV.out]; simp [*]), (Later.rfl' _).alloc _⟩ | exact ⟨ret_bool (by rw [HV.out]; simp [*]), ((Later.rfl' _).alloc _).trans hb1⟩ | exact ⟨ret_bool (by rw [HV.out]), (Later.rfl' _).alloc _⟩ | exact ⟨ret_bool (by rw [HV.out]), ((Later.rfl' _).alloc _).trans hb1⟩
    subst hL
    by_cases hC : C = 0
    rotate_left
    · have iC : (0 : Int) < (C : Int) := by omega
      have jC : ((C : Int) == 0) = false := by simpa using hC
      have HV : Hid (q = false) := by unfold Hid; rw [HQ.out]; simp [hC]
      clear hC
      go_enter Try.func18, Try.ntmps18
      go_wp2_with fail
      all_goals
        go_ret
        first | exact ⟨ret_bool (by rw [HV.out]; simp [*]), (Later.rfl' _).alloc _⟩ | exact ⟨ret_bool (by rw [HV.out]; simp [*]), ((Later.rfl' _).alloc _).trans hb1⟩ | exact ⟨ret_bool (by rw [HV.out]), (Later.rfl' _).alloc _⟩ | exact ⟨ret_bool (by rw [HV.out]), ((Later.rfl' _).alloc _).trans hb1⟩
    subst hC
    by_cases hR : R = 0
    rotate_left
    · have iR : (0 : Int) < (R : Int) := by omega
      have jR : ((R : Int) == 0) = false := by simpa using hR
      have HV : Hid (q = false) := by unfold Hid; rw [HQ.out]; simp [hR]
      clear hR
      go_enter Try.func18, Try.ntmps18
      go_wp2_with fail
      all_goals
        go_ret
        first | exact ⟨ret_bool (by rw [HV.out]; simp [*]), (Later.rfl' _).alloc _⟩ | exact ⟨ret_bool (by rw [HV.out]; simp [*]), ((Later.rfl' _).alloc _).trans hb1⟩ | exact ⟨ret_bool (by rw [HV.out]), (Later.rfl' _).alloc _⟩ | exact ⟨ret_bool (by rw [HV.out]), ((Later.rfl' _).alloc _).trans hb1⟩
    subst hR
    by_cases hs : s = 0
    rotate_left
    · have js : (s != 0) = true := by simpa using hs
      have js' : (s == 0) = false := by simpa using hs
      have HV : Hid (q = false) := by unfold Hid; rw [HQ.out]; simp [hs]
      clear hs
      go_enter Try.func18, Try.ntmps18
      go_wp2_with fail
      all_goals
        go_ret
        first | exact ⟨ret_bool (by rw [HV.out]; simp [*]), (Later.rfl' _).alloc _⟩ | exact ⟨ret_bool (by rw [HV.out]; simp [*]), ((Later.rfl' _).alloc _).trans hb1⟩ | exact ⟨ret_bool (by rw [HV.out]), (Later.rfl' _).alloc _⟩ | exact ⟨ret_bool (by rw [HV.out]), ((Later.rfl' _).alloc _).trans hb1⟩
    subst hs
    by_cases ht : t.toList = []
    rotate_left
    · have jt : (t.toList == []) = false := by simpa using ht
      have HV : Hid (q = false) := by unfold Hid; rw [HQ.out]; simp [ht]
      go_enter Try.func18, Try.ntmps18
      go_wp2_with fail
      all_goals
        go_ret
        first | exact ⟨ret_bool (by rw [HV.out]; simp [*]), (Later.rfl' _).alloc _⟩ | exact ⟨ret_bool (by rw [HV.out]; simp [*]), ((Later.rfl' _).alloc _).trans hb1⟩ | exact ⟨ret_bool (by rw [HV.out]), (Later.rfl' _).alloc _⟩ | exact ⟨ret_bool (by rw [HV.out]), ((Later.rfl' _).alloc _).trans hb1⟩
    skip
    have HV : Hid (q = numV n) := by unfold Hid; rw [HQ.out]; simp [ht]
    go_enter Try.func18, Try.ntmps18
    go_wp2_with (go_at_call 66; refine (HCN.out _).mono ?_; rintro e w1 ⟨rfl, rfl⟩)
    all_goals
      go_ret
      first | exact ⟨ret_bool (by rw [HV.out]; simp [*]), (Later.rfl' _).alloc _⟩ | exact ⟨ret_bool (by rw [HV.out]; simp [*]), ((Later.rfl' _).alloc _).trans hb1⟩ | exact ⟨ret_bool (by rw [HV.out]), (Later.rfl' _).alloc _⟩ | exact ⟨ret_bool (by rw [HV.out]), ((Later.rfl' _).alloc _).trans hb1⟩
  by_cases k2 : k = 2
  · subst k2
    clear k3
    clear k1
    by_cases hL : L = 0
    rotate_left
    · have iL : (0 : Int) < (L : Int) := by omega
      have jL : ((L : Int) == 0) = false := by simpa using hL
      have HV : Hid (q = false) := by unfold Hid; rw [HQ.out]; simp [hL]
      clear hL
      go_enter Try.func18, Try.ntmps18
      go_wp2_with fail
      all_goals
        go_ret
        first | exact ⟨ret_bool (by rw [HV.out]; simp [*]), (Later.rfl' _).alloc _⟩ | exact ⟨ret_bool (by rw [HV.out]; simp [*]), ((Later.rfl' _).alloc _).trans hb1⟩ | exact ⟨ret_bool (by rw [HV.out]), (Later.rfl' _).alloc _⟩ | exact ⟨ret_bool (by rw [HV.out]), ((Later.rfl' _).alloc _).trans hb1⟩
    subst hL
    by_cases hC : C = 0
    rotate_left
    · have iC : (0 : Int) < (C : Int) := by omega
      have jC : ((C : Int) == 0) = false := by simpa using hC
      have HV : Hid (q = false) := by unfold Hid; rw [HQ.out]; simp [hC]
      clear hC
      go_enter Try.func18, Try.ntmps18
      go_wp2_with fail
      all_goals
        go_ret
        first | exact ⟨ret_bool (by rw [HV.out]; simp [*]), (Later.rfl' _).alloc _⟩ | exact ⟨ret_bool (by rw [HV.out]; simp [*]), ((Later.rfl' _).alloc _).trans hb1⟩ | exact ⟨ret_bool (by rw [HV.out]), (Later.rfl' _).alloc _⟩ | exact ⟨ret_bool (by rw [HV.out]), ((Later.rfl' _).alloc _).trans hb1⟩
    subst hC
    by_cases hR : R = 0
    rotate_left
    · have iR : (0 : Int) < (R : Int) := by omega
      have jR : ((R : Int) == 0) = false := by simpa using hR
      have HV : Hid (q = false) := by unfold Hid; rw [HQ.out]; simp [hR]
      clear hR
      go_enter Try.func18, Try.ntmps18
      go_wp2_with fail
      all_goals
        go_ret
        first | exact ⟨ret_bool (by rw [HV.out]; simp [*]), (Later.rfl' _).alloc _⟩ | exact ⟨ret_bool (by rw [HV.out]; simp [*]), ((Later.rfl' _).alloc _).trans hb1⟩ | exact ⟨ret_bool (by rw [HV.out]), (Later.rfl' _).alloc _⟩ | exact ⟨ret_bool (by rw [HV.out]), ((Later.rfl' _).alloc _).trans hb1⟩
    subst hR
    by_cases hn : n = 0
    rotate_left
    · have jn : (n == 0) = false := by simpa using hn
      have HV : Hid (q = false) := by unfold Hid; rw [HQ.out]; simp [hn]
      clear hn
      go_enter Try.func18, Try.ntmps18
      go_wp2_with fail
      all_goals
        go_ret
        first | exact ⟨ret_bool (by rw [HV.out]; simp [*]), (Later.rfl' _).alloc _⟩ | exact ⟨ret_bool (by rw [HV.out]; simp [*]), ((Later.rfl' _).alloc _).trans hb1⟩ | exact ⟨ret_bool (by rw [HV.out]), (Later.rfl' _).alloc _⟩ | exact ⟨ret_bool (by rw [HV.out]), ((Later.rfl' _).alloc _).trans hb1⟩
    subst hn
    by_cases hs : s = 0
    rotate_left
    · have js : (s != 0) = true := by simpa using hs
      have js' : (s == 0) = false := by simpa using hs
      have HV : Hid (q = false) := by unfold Hid; rw [HQ.out]; simp [hs]
      clear hs
      go_enter Try.func18, Try.ntmps18
      go_wp2_with fail
      all_goals
        go_ret
        first | exact ⟨ret_bool (by rw [HV.out]; simp [*]), (Later.rfl' _).alloc _⟩ | exact ⟨ret_bool (by rw [HV.out]; simp [*]), ((Later.rfl' _).alloc _).trans hb1⟩ | exact ⟨ret_bool (by rw [HV.out]), (Later.rfl' _).alloc _⟩ | exact ⟨ret_bool (by rw [HV.out]), ((Later.rfl' _).alloc _).trans hb1⟩
    subst hs
    have HV : Hid (q = validText t) := by unfold Hid; rw [HQ.out]; simp
    go_enter Try.func18, Try.ntmps18
    go_wp2_with (go_at_call 67; refine (HCX.out _).mono ?_; rintro e w1 ⟨rfl, hb1⟩)
    all_goals
      go_ret
      first | exact ⟨ret_bool (by rw [HV.out]; simp [*]), (Later.rfl' _).alloc _⟩ | exact ⟨ret_bool (by rw [HV.out]; simp [*]), ((Later.rfl' _).alloc _).trans hb1⟩ | exact ⟨ret_bool (by rw [HV.out]), (Later.rfl' _).alloc _⟩ | exact ⟨ret_bool (by rw [HV.out]), ((Later.rfl' _).alloc _).trans hb1⟩
  by_cases k4 : k = 4
  · subst k4
    clear k3
    clear k1
    clear k2
    by_cases hL : L = 0
    rotate_left
    · have iL : (0 : Int) < (L : Int) := by omega
      have jL : ((L : Int) == 0) = false := by simpa using hL
      have HV : Hid (q = false) := by unfold Hid; rw [HQ.out]; simp [hL]
      clear hL
      go_enter Try.func18, Try.ntmps18
      go_wp2_with fail
      all_goals
        go_ret
        first | exact ⟨ret_bool (by rw [HV.out]; simp [*]), (Later.rfl' _).alloc _⟩ | exact ⟨ret_bool (by rw [HV.out]; simp [*]), ((Later.rfl' _).alloc _).trans hb1⟩ | exact ⟨ret_bool (by rw [HV.out]), (Later.rfl' _).alloc _⟩ | exact ⟨ret_bool (by rw [HV.out]), ((Later.rfl' _).alloc _).trans hb1⟩
    subst hL
    by_cases hC : C = 0
    rotate_left
    · have iC : (0 : Int) < (C : Int) := by omega
      have jC : ((C : Int) == 0) = false := by simpa using hC
      have HV : Hid (q = false) := by unfold Hid; rw [HQ.out]; simp [hC]
      clear hC
      go_enter Try.func18, Try.ntmps18
      go_wp2_with fail
      all_goals
        go_ret
        first | exact ⟨ret_bool (by rw [HV.out]; simp [*]), (Later.rfl' _).alloc _⟩ | exact ⟨ret_bool (by rw [HV.out]; simp [*]), ((Later.rfl' _).alloc _).trans hb1⟩ | exact ⟨ret_bool (by rw [HV.out]), (Later.rfl' _).alloc _⟩ | exact ⟨ret_bool (by rw [HV.out]), ((Later.rfl' _).alloc _).trans hb1⟩
    subst hC
    by_cases hR : R = 0
    rotate_left
    · have iR : (0 : Int) < (R : Int) := by omega
      have jR : ((R : Int) == 0) = false := by simpa using hR
      have HV : Hid (q = false) := by unfold Hid; rw [HQ.out]; simp [hR]
      clear hR
      go_enter Try.func18, Try.ntmps18
      go_wp2_with fail
      all_goals
        go_ret
        first | exact ⟨ret_bool (by rw [HV.out]; simp [*]), (Later.rfl' _).alloc _⟩ | exact ⟨ret_bool (by rw [HV.out]; simp [*]), ((Later.rfl' _).alloc _).trans hb1⟩ | exact ⟨ret_bool (by rw [HV.out]), (Later.rfl' _).alloc _⟩ | exact ⟨ret_bool (by rw [HV.out]), ((Later.rfl' _).alloc _).trans hb1⟩
    subst hR
    by_cases ht : t.toList = []
    rotate_left
    · have jt : (t.toList == []) = false := by simpa using ht
      have HV : Hid (q = false) := by unfold Hid; rw [HQ.out]; simp [ht]
      go_enter Try.func18, Try.ntmps18
      go_wp2_with fail
      all_goals
        go_ret
        first | exact ⟨ret_bool (by rw [HV.out]; simp [*]), (Later.rfl' _).alloc _⟩ | exact ⟨ret_bool (by rw [HV.out]; simp [*]), ((Later.rfl' _).alloc _).trans hb1⟩ | exact ⟨ret_bool (by rw [HV.out]), (Later.rfl' _).alloc _⟩ | exact ⟨ret_bool (by rw [HV.out]), ((Later.rfl' _).alloc _).trans hb1⟩
    skip
    have HV : Hid (q = (numV n && numV s)) := by unfold Hid; rw [HQ.out]; simp [ht]
    go_enter Try.func18, Try.ntmps18
    go_wp2_with (first | (go_at_call 66; (with_reducible refine (HCN.out _).mono ?_); rintro e w1 ⟨rfl, rfl⟩) | (go_at_call 66; (with_reducible refine (HCS.out _).mono ?_); rintro e w1 ⟨rfl, rfl⟩))
    all_goals
      go_ret
      first | exact ⟨ret_bool (by rw [HV.out]; simp [*]), (Later.rfl' _).alloc _⟩ | exact ⟨ret_bool (by rw [HV.out]; simp [*]), ((Later.rfl' _).alloc _).trans hb1⟩ | exact ⟨ret_bool (by rw [HV.out]), (Later.rfl' _).alloc _⟩ | exact ⟨ret_bool (by rw [HV.out]), ((Later.rfl' _).alloc _).trans hb1⟩
  by_cases k6 : k = 6
  · subst k6
    clear k3
    clear k1
    clear k2
    clear k4
    by_cases hL : L = 0
    rotate_left
    · have iL : (0 : Int) < (L : Int) := by omega
      have jL : ((L : Int) == 0) = false := by simpa using hL
      have HV : Hid (q = false) := by unfold Hid; rw [HQ.out]; simp [hL]
      clear hL
      go_enter Try.func18, Try.ntmps18
      go_wp2_with fail
      all_goals
        go_ret
        first | exact ⟨ret_bool (by rw [HV.out]; simp [*]), (Later.rfl' _).alloc _⟩ | exact ⟨ret_bool (by rw [HV.out]; simp [*]), ((Later.rfl' _).alloc _).trans hb1⟩ | exact ⟨ret_bool (by rw [HV.out]), (Later.rfl' _).alloc _⟩ | exact ⟨ret_bool (by rw [HV.out]), ((Later.rfl' _).alloc _).trans hb1⟩
    subst hL
    by_cases hC : C = 0
    rotate_left
    · have iC : (0 : Int) < (C : Int) := by omega
      have jC : ((C : Int) == 0) = false := by simpa using hC
      have HV : Hid (q = false) := by unfold Hid; rw [HQ.out]; simp [hC]
      clear hC
      go_enter Try.func18, Try.ntmps18
      go_wp2_with fail
      all_goals
        go_ret
        first | exact ⟨ret_bool (by rw [HV.out]; simp [*]), (Later.rfl' _).alloc _⟩ | exact ⟨ret_bool (by rw [HV.out]; simp [*]), ((Later.rfl' _).alloc _).trans hb1⟩ | exact ⟨ret_bool (by rw [HV.out]), (Later.rfl' _).alloc _⟩ | exact ⟨ret_bool (by rw [HV.out]), ((Later.rfl' _).alloc _).trans hb1⟩
    subst hC
    by_cases hR : R = 0
    rotate_left
    · have iR : (0 : Int) < (R : Int) := by omega
      have jR : ((R : Int) == 0) = false := by simpa using hR
      have HV : Hid (q = false) := by unfold Hid; rw [HQ.out]; simp [hR]
      clear hR
      go_enter Try.func18, Try.ntmps18
      go_wp2_with fail
      all_goals
        go_ret
        first | exact ⟨ret_bool (by rw [HV.out]; simp [*]), (Later.rfl' _).alloc _⟩ | exact ⟨ret_bool (by rw [HV.out]; simp [*]), ((Later.rfl' _).alloc _).trans hb1⟩ | exact ⟨ret_bool (by rw [HV.out]), (Later.rfl' _).alloc _⟩ | exact ⟨ret_bool (by rw [HV.out]), ((Later.rfl' _).alloc _).trans hb1⟩
    subst hR
    by_cases hs : s = 0
    rotate_left
    · have js : (s != 0) = true := by simpa using hs
      have js' : (s == 0) = false := by simpa using hs
      have HV : Hid (q = false) := by unfold Hid; rw [HQ.out]; simp [hs]
      clear hs
      go_enter Try.func18, Try.ntmps18
      go_wp2_with fail
      all_goals
        go_ret
        first | exact ⟨ret_bool (by rw [HV.out]; simp [*]), (Later.rfl' _).alloc _⟩ | exact ⟨ret_bool (by rw [HV.out]; simp [*]), ((Later.rfl' _).alloc _).trans hb1⟩ | exact ⟨ret_bool (by rw [HV.out]), (Later.rfl' _).alloc _⟩ | exact ⟨ret_bool (by rw [HV.out]), ((Later.rfl' _).alloc _).trans hb1⟩
    subst hs
    by_cases ht : t.toList = []
    rotate_left
    · have jt : (t.toList == []) = false := by simpa using ht
      have HV : Hid (q = false) := by unfold Hid; rw [HQ.out]; simp [ht]
      go_enter Try.func18, Try.ntmps18
      go_wp2_with fail
      all_goals
        go_ret
        first | exact ⟨ret_bool (by rw [HV.out]; simp [*]), (Later.rfl' _).alloc _⟩ | exact ⟨ret_bool (by rw [HV.out]; simp [*]), ((Later.rfl' _).alloc _).trans hb1⟩ | exact ⟨ret_bool (by rw [HV.out]), (Later.rfl' _).alloc _⟩ | exact ⟨ret_bool (by rw [HV.out]), ((Later.rfl' _).alloc _).trans hb1⟩
    skip
    have HV : Hid (q = (decide (1 ≤ n) && decide (n ≤ 8))) := by unfold Hid; rw [HQ.out]; simp [ht]
    go_enter Try.func18, Try.ntmps18
    go_wp2_with (go_at_call 68; refine (implIn n 1 8 _ rfl _).mono ?_; rintro e w1 ⟨rfl, rfl⟩)
    all_goals
      go_ret
      first | exact ⟨ret_bool (by rw [HV.out]; simp [*]), (Later.rfl' _).alloc _⟩ | exact ⟨ret_bool (by rw [HV.out]; simp [*]), ((Later.rfl' _).alloc _).trans hb1⟩ | exact ⟨ret_bool (by rw [HV.out]), (Later.rfl' _).alloc _⟩ | exact ⟨ret_bool (by rw [HV.out]), ((Later.rfl' _).alloc _).trans hb1⟩
  by_cases k5 : k = 5
  · subst k5
    clear k1 k2 k4 k6 k3
    by_cases hL : L = 0
    rotate_left
    · have iL : (0 : Int) < (L : Int) := by omega
      have jL : ((L : Int) == 0) = false := by simpa using hL
      by_cases hn : n = 0
      rotate_left
      · have jn : (n == 0) = false := by simpa using hn
        have HV : Hid (q = false) := by unfold Hid; rw [HQ.out]; simp [hn]
        clear hn
        go_enter Try.func18, Try.ntmps18
        go_wp2_with fail
        all_goals
          go_ret
          first | exact ⟨ret_bool (by rw [HV.out]; simp [*]), (Later.rfl' _).alloc _⟩ | exact ⟨ret_bool (by rw [HV.out]; simp [*]), ((Later.rfl' _).alloc _).trans hb1⟩ | exact ⟨ret_bool (by rw [HV.out]), (Later.rfl' _).alloc _⟩ | exact ⟨ret_bool (by rw [HV.out]), ((Later.rfl' _).alloc _).trans hb1⟩
      subst hn
      by_cases hs : s = 0
      rotate_left
      · have js : (s != 0) = true := by simpa using hs
        have js' : (s == 0) = false := by simpa using hs
        have HV : Hid (q = false) := by unfold Hid; rw [HQ.out]; simp [hs]
        clear hs
        go_enter Try.func18, Try.ntmps18
        go_wp2_with fail
        all_goals
          go_ret
          first | exact ⟨ret_bool (by rw [HV.out]; simp [*]), (Later.rfl' _).alloc _⟩ | exact ⟨ret_bool (by rw [HV.out]; simp [*]), ((Later.rfl' _).alloc _).trans hb1⟩ | exact ⟨ret_bool (by rw [HV.out]), (Later.rfl' _).alloc _⟩ | exact ⟨ret_bool (by rw [HV.out]), ((Later.rfl' _).alloc _).trans hb1⟩
      subst hs
      by_cases ht : t.toList = []
      rotate_left
      · have jt : (t.toList == []) = false := by simpa using ht
        have HV : Hid (q = false) := by unfold Hid; rw [HQ.out]; simp [ht]
        go_enter Try.func18, Try.ntmps18
        go_wp2_with fail
        all_goals
          go_ret
          first | exact ⟨ret_bool (by rw [HV.out]; simp [*]), (Later.rfl' _).alloc _⟩ | exact ⟨ret_bool (by rw [HV.out]; simp [*]), ((Later.rfl' _).alloc _).trans hb1⟩ | exact ⟨ret_bool (by rw [HV.out]), (Later.rfl' _).alloc _⟩ | exact ⟨ret_bool (by rw [HV.out]), ((Later.rfl' _).alloc _).trans hb1⟩
      skip
      have HV : Hid (q = false) := by unfold Hid; rw [HQ.out]; simp [hL, ht]
      clear hL
      go_enter Try.func18, Try.ntmps18
      go_wp2_with fail
      all_goals
        go_ret
        first | exact ⟨ret_bool (by rw [HV.out]; simp [*]), (Later.rfl' _).alloc _⟩ | exact ⟨ret_bool (by rw [HV.out]; simp [*]), ((Later.rfl' _).alloc _).trans hb1⟩ | exact ⟨ret_bool (by rw [HV.out]), (Later.rfl' _).alloc _⟩ | exact ⟨ret_bool (by rw [HV.out]), ((Later.rfl' _).alloc _).trans hb1⟩
    subst hL
    by_cases hC : C = 0
    rotate_left
    · have iC : (0 : Int) < (C : Int) := by omega
      have jC : ((C : Int) == 0) = false := by simpa using hC
      by_cases hn : n = 0
      rotate_left
      · have jn : (n == 0) = false := by simpa using hn
        have HV : Hid (q = false) := by unfold Hid; rw [HQ.out]; simp [hn]
        clear hn
        go_enter Try.func18, Try.ntmps18
        go_wp2_with fail
        all_goals
          go_ret
          first | exact ⟨ret_bool (by rw [HV.out]; simp [*]), (Later.rfl' _).alloc _⟩ | exact ⟨ret_bool (by rw [HV.out]; simp [*]), ((Later.rfl' _).alloc _).trans hb1⟩ | exact ⟨ret_bool (by rw [HV.out]), (Later.rfl' _).alloc _⟩ | exact ⟨ret_bool (by rw [HV.out]), ((Later.rfl' _).alloc _).trans hb1⟩
      subst hn
      by_cases hs : s = 0
      rotate_left
      · have js : (s != 0) = true := by simpa using hs
        have js' : (s == 0) = false := by simpa using hs
        have HV : Hid (q = false) := by unfold Hid; rw [HQ.out]; simp [hs]
        clear hs
        go_enter Try.func18, Try.ntmps18
        go_wp2_with fail
        all_goals
          go_ret
          first | exact ⟨ret_bool (by rw [HV.out]; simp [*]), (Later.rfl' _).alloc _⟩ | exact ⟨ret_bool (by rw [HV.out]; simp [*]), ((Later.rfl' _).alloc _).trans hb1⟩ | exact ⟨ret_bool (by rw [HV.out]), (Later.rfl' _).alloc _⟩ | exact ⟨ret_bool (by rw [HV.out]), ((Later.rfl' _).alloc _).trans hb1⟩
      subst hs
      by_cases ht : t.toList = []
      rotate_left
      · have jt : (t.toList == []) = false := by simpa using ht
        have HV : Hid (q = false) := by unfold Hid; rw [HQ.out]; simp [ht]
        go_enter Try.func18, Try.ntmps18
        go_wp2_with fail
        all_goals
          go_ret
          first | exact ⟨ret_bool (by rw [HV.out]; simp [*]), (Later.rfl' _).alloc _⟩ | exact ⟨ret_bool (by rw [HV.out]; simp [*]), ((Later.rfl' _).alloc _).trans hb1⟩ | exact ⟨ret_bool (by rw [HV.out]), (Later.rfl' _).alloc _⟩ | exact ⟨ret_bool (by rw [HV.out]), ((Later.rfl' _).alloc _).trans hb1⟩
      skip
      have HV : Hid (q = tableB cl r) := by unfold Hid; rw [HQ.out]; simp [ht]
      go_enter Try.func18, Try.ntmps18
      go_wp2_with (go_at_call 69; refine (HCT.out _ ((Later.rfl' _).alloc _)).mono ?_; rintro e w1 ⟨rfl, hb1⟩)
      all_goals
        go_ret
        first | exact ⟨ret_bool (by rw [HV.out]; simp [*]), (Later.rfl' _).alloc _⟩ | exact ⟨ret_bool (by rw [HV.out]; simp [*]), ((Later.rfl' _).alloc _).trans hb1⟩ | exact ⟨ret_bool (by rw [HV.out]), (Later.rfl' _).alloc _⟩ | exact ⟨ret_bool (by rw [HV.out]), ((Later.rfl' _).alloc _).trans hb1⟩
    subst hC
    by_cases hR : R = 0
    rotate_left
    · have iR : (0 : Int) < (R : Int) := by omega
      have jR : ((R : Int) == 0) = false := by simpa using hR
      by_cases hn : n = 0
      rotate_left
      · have jn : (n == 0) = false := by simpa using hn
        have HV : Hid (q = false) := by unfold Hid; rw [HQ.out]; simp [hn]
        clear hn
        go_enter Try.func18, Try.ntmps18
        go_wp2_with fail
        all_goals
          go_ret
          first | exact ⟨ret_bool (by rw [HV.out]; simp [*]), (Later.rfl' _).alloc _⟩ | exact ⟨ret_bool (by rw [HV.out]; simp [*]), ((Later.rfl' _).alloc _).trans hb1⟩ | exact ⟨ret_bool (by rw [HV.out]), (Later.rfl' _).alloc _⟩ | exact ⟨ret_bool (by rw [HV.out]), ((Later.rfl' _).alloc _).trans hb1⟩
      subst hn
      by_cases hs : s = 0
      rotate_left
      · have js : (s != 0) = true := by simpa using hs
        have js' : (s == 0) = false := by simpa using hs
        have HV : Hid (q = false) := by unfold Hid; rw [HQ.out]; simp [hs]
        clear hs
        go_enter Try.func18, Try.ntmps18
        go_wp2_with fail
        all_goals
          go_ret
          first | exact ⟨ret_bool (by rw [HV.out]; simp [*]), (Later.rfl' _).alloc _⟩ | exact ⟨ret_bool (by rw [HV.out]; simp [*]), ((Later.rfl' _).alloc _).trans hb1⟩ | exact ⟨ret_bool (by rw [HV.out]), (Later.rfl' _).alloc _⟩ | exact ⟨ret_bool (by rw [HV.out]), ((Later.rfl' _).alloc _).trans hb1⟩
      subst hs
      by_cases ht : t.toList = []
      rotate_left
      · have jt : (t.toList == []) = false := by simpa using ht
        have HV : Hid (q = false) := by unfold Hid; rw [HQ.out]; simp [ht]
        go_enter Try.func18, Try.ntmps18
        go_wp2_with fail
        all_goals
          go_ret
          first | exact ⟨ret_bool (by rw [HV.out]; simp [*]), (Later.rfl' _).alloc _⟩ | exact ⟨ret_bool (by rw [HV.out]; simp [*]), ((Later.rfl' _).alloc _).trans hb1⟩ | exact ⟨ret_bool (by rw [HV.out]), (Later.rfl' _).alloc _⟩ | exact ⟨ret_bool (by rw [HV.out]), ((Later.rfl' _).alloc _).trans hb1⟩
      skip
      have HV : Hid (q = tableB cl r) := by unfold Hid; rw [HQ.out]; simp [ht]
      go_enter Try.func18, Try.ntmps18
      go_wp2_with (go_at_call 69; refine (HCT.out _ ((Later.rfl' _).alloc _)).mono ?_; rintro e w1 ⟨rfl, hb1⟩)
      all_goals
        go_ret
        first | exact ⟨ret_bool (by rw [HV.out]; simp [*]), (Later.rfl' _).alloc _⟩ | exact ⟨ret_bool (by rw [HV.out]; simp [*]), ((Later.rfl' _).alloc _).trans hb1⟩ | exact ⟨ret_bool (by rw [HV.out]), (Later.rfl' _).alloc _⟩ | exact ⟨ret_bool (by rw [HV.out]), ((Later.rfl' _).alloc _).trans hb1⟩
    subst hR
    by_cases hn : n = 0
    rotate_left
    · have jn : (n == 0) = false := by simpa using hn
      have HV : Hid (q = false) := by unfold Hid; rw [HQ.out]; simp [hn]
      clear hn
      go_enter Try.func18, Try.ntmps18
      go_wp2_with fail
      all_goals
        go_ret
        first | exact ⟨ret_bool (by rw [HV.out]; simp [*]), (Later.rfl' _).alloc _⟩ | exact ⟨ret_bool (by rw [HV.out]; simp [*]), ((Later.rfl' _).alloc _).trans hb1⟩ | exact ⟨ret_bool (by rw [HV.out]), (Later.rfl' _).alloc _⟩ | exact ⟨ret_bool (by rw [HV.out]), ((Later.rfl' _).alloc _).trans hb1⟩
    subst hn
    by_cases hs : s = 0
    rotate_left
    · have js : (s != 0) = true := by simpa using hs
      have js' : (s == 0) = false := by simpa using hs
      have HV : Hid (q = false) := by unfold Hid; rw [HQ.out]; simp [hs]
      clear hs
      go_enter Try.func18, Try.ntmps18
      go_wp2_with fail
      all_goals
        go_ret
        first | exact ⟨ret_bool (by rw [HV.out]; simp [*]), (Later.rfl' _).alloc _⟩ | exact ⟨ret_bool (by rw [HV.out]; simp [*]), ((Later.rfl' _).alloc _).trans hb1⟩ | exact ⟨ret_bool (by rw [HV.out]), (Later.rfl' _).alloc _⟩ | exact ⟨ret_bool (by rw [HV.out]), ((Later.rfl' _).alloc _).trans hb1⟩
    subst hs
    by_cases ht : t.toList = []
    rotate_left
    · have jt : (t.toList == []) = false := by simpa using ht
      have HV : Hid (q = false) := by unfold Hid; rw [HQ.out]; simp [ht]
      go_enter Try.func18, Try.ntmps18
      go_wp2_with fail
      all_goals
        go_ret
        first | exact ⟨ret_bool (by rw [HV.out]; simp [*]), (Later.rfl' _).alloc _⟩ | exact ⟨ret_bool (by rw [HV.out]; simp [*]), ((Later.rfl' _).alloc _).trans hb1⟩ | exact ⟨ret_bool (by rw [HV.out]), (Later.rfl' _).alloc _⟩ | exact ⟨ret_bool (by rw [HV.out]), ((Later.rfl' _).alloc _).trans hb1⟩
    skip
    have HV : Hid (q = tableB cl r) := by unfold Hid; rw [HQ.out]; simp [ht]
    go_enter Try.func18, Try.ntmps18
    go_wp2_with (go_at_call 69; refine (HCT.out _ ((Later.rfl' _).alloc _)).mono ?_; rintro e w1 ⟨rfl, hb1⟩)
    all_goals
      go_ret
      first | exact ⟨ret_bool (by rw [HV.out]; simp [*]), (Later.rfl' _).alloc _⟩ | exact ⟨ret_bool (by rw [HV.out]; simp [*]), ((Later.rfl' _).alloc _).trans hb1⟩ | exact ⟨ret_bool (by rw [HV.out]), (Later.rfl' _).alloc _⟩ | exact ⟨ret_bool (by rw [HV.out]), ((Later.rfl' _).alloc _).trans hb1⟩
  have hq := HQ.out
  simp only [k1, k2, k3, k4, k5, k6, if_false] at hq
  have HV := Lib.hid hq
  have e1 : (k == 1) = false := by simpa using k1
  have d1 : (k != 1) = true := by simpa using k1
  clear k1
  have e2 : (k == 2) = false := by simpa using k2
  have d2 : (k != 2) = true := by simpa using k2
  clear k2
  have e3 : (k == 3) = false := by simpa using k3
  have d3 : (k != 3) = true := by simpa using k3
  clear k3
  have e4 : (k == 4) = false := by simpa using k4
  have d4 : (k != 4) = true := by simpa using k4
  clear k4
  have e5 : (k == 5) = false := by simpa using k5
  have d5 : (k != 5) = true := by simpa using k5
  clear k5
  have e6 : (k == 6) = false := by simpa using k6
  have d6 : (k != 6) = true := by simpa using k6
  clear k6
  clear hq
  go_enter Try.func18, Try.ntmps18
  go_wp2_with fail
  all_goals
    go_ret
    exact ⟨ret_bool HV.out.symm, (Later.rfl' _).alloc _⟩
end Go.Proofs.Ytghemlokpfipoaa
