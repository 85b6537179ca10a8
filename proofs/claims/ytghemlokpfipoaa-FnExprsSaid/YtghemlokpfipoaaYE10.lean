/-
  Expressions: IsValidExpr, and its law: the walks.
-/
import Derived.Test.YtghemlokpfipoaaYE9
import Derived.Test.YtghemlokpfipoaaYE6
namespace Go.Proofs.Ytghemlokpfipoaa
open Go.ChangeShapes Go.WideShapes Go.ChangeAt Go.RowKit
set_option linter.unusedVariables false
set_option linter.unusedSimpArgs false
set_option maxRecDepth 100000

def validE (e : Ex) : Bool := decide (e.count ≤ 40) && (decide (e.depth ≤ 8) && e.okAll)

theorem specIsValidExpr {W : World} {S : Nat → Prop} {e : Ex} {cs : List Value} (h : ExAt W S e cs) (hc : e.cost ≤ 1048576) : Calls Try.prog 56 #[.agg cs.toArray] W fun r w' => r = .returned (.bool (validE e)) ∧ Later W w' := by
  have CL := fun W' hW => specl10Left W S e cs h hc 40 W' (by omega) (by omega) hW
  have CD := fun W' hW => specNestingOf W S e cs h (by have := count_le e; have := ex_depth_le e; omega) W' hW
  have CA := fun W' hW => specl10All W S e cs h hc W' hW
  obtain ⟨y0, y1, y2, y3, y4, y5, rfl⟩ := h.four
  have HV : Hid (validE e = (decide (e.count ≤ 40) && (decide (e.depth ≤ 8) && e.okAll))) := rfl
  obtain ⟨q, hq⟩ : ∃ q, q = e.okAll := ⟨_, rfl⟩
  obtain ⟨D, hD⟩ : ∃ D, D = e.depth := ⟨_, rfl⟩
  obtain ⟨N, hN⟩ : ∃ N, N = e.count := ⟨_, rfl⟩
  rw [← hq] at CA HV
  rw [← hD] at CD HV
  rw [← hN] at CL HV
  obtain ⟨V, hV⟩ : ∃ V, V = validE e := ⟨_, rfl⟩
  rw [← hV] at HV ⊢
  have HCL := Lib.hid CL; have HCD := Lib.hid CD; have HCA := Lib.hid CA
  clear CL CD CA h hc hq hD hN hV
  rcases leftOf_ways 40 N with ⟨g1, g2⟩ | ⟨g1, g2⟩
  · have g3 : (0 : Int) ≤ 40 - (N : Int) := by omega
    rw [g2] at HCL
    by_cases d1 : D ≤ 8
    · have d2 : (D : Int) ≤ 8 := by omega
      have HR : Hid (V = q) := by unfold Hid; rw [HV.out]; simp [d1, show N ≤ 40 by omega]
      clear HV d1 g1 g2
      go_enter Try.func56, Try.ntmps56
      go_wp2_with fail
      refine (HCL.out _ ((Later.rfl' _).alloc _)).mono ?_; rintro r w1 ⟨rfl, hb1⟩
      obtain ⟨a0, a1, a2, a3⟩ := box4 hb1
      go_wp2_with fail
      refine (HCD.out _ (((Later.rfl' _).alloc _).trans hb1)).mono ?_; rintro r w2 ⟨rfl, hb2⟩
      have hb2 := hb1.trans hb2
      clear a0 a1 a2 a3
      obtain ⟨a0, a1, a2, a3⟩ := box4 hb2
      go_wp2_with fail
      refine (HCA.out _ (((Later.rfl' _).alloc _).trans hb2)).mono ?_; rintro r w3 ⟨rfl, hb3⟩
      go_wp2_with fail
      go_ret
      exact ⟨ret_bool HR.out.symm, ((Later.rfl' _).alloc _).trans (hb2.trans hb3)⟩
    · have d2 : (8 : Int) < (D : Int) := by omega
      have d3 : decide ((D : Int) ≤ 8) = false := by simp; omega
      have HR : Hid (V = false) := by unfold Hid; rw [HV.out]; simp [d1]
      clear HV d1 g1 g2
      go_enter Try.func56, Try.ntmps56
      go_wp2_with fail
      refine (HCL.out _ ((Later.rfl' _).alloc _)).mono ?_; rintro r w1 ⟨rfl, hb1⟩
      obtain ⟨a0, a1, a2, a3⟩ := box4 hb1
      go_wp2_with fail
      refine (HCD.out _ (((Later.rfl' _).alloc _).trans hb1)).mono ?_; rintro r w2 ⟨rfl, hb2⟩
      go_wp2_with fail
      go_ret
      exact ⟨ret_bool HR.out.symm, ((Later.rfl' _).alloc _).trans (hb1.trans hb2)⟩
  · rw [g2] at HCL
    have HR : Hid (V = false) := by unfold Hid; rw [HV.out]; simp [show ¬ N ≤ 40 by omega]
    clear HV g1 g2
    go_enter Try.func56, Try.ntmps56
    go_wp2_with fail
    refine (HCL.out _ ((Later.rfl' _).alloc _)).mono ?_; rintro r w1 ⟨rfl, hb1⟩
    go_wp2_with fail
    go_ret
    exact ⟨ret_bool HR.out.symm, ((Later.rfl' _).alloc _).trans hb1⟩

theorem implIsValidExpr {W : World} {S : Nat → Prop} {e : Ex} {cs : List Value} (h : ExAt W S e cs) (hc : e.cost ≤ 1048576) : Calls Try.prog 55 #[.agg cs.toArray] W fun r w' => r = .returned (.bool (validE e)) ∧ Later W w' := by
  have CL := fun W' hW => implNodeCount W S e cs h (by have := count_le e; omega) W' hW
  have CD := fun W' hW => implNestingOf W S e cs h (by have := count_le e; have := ex_depth_le e; omega) W' hW
  have CA := fun W' hW => implareNodes W S e cs h hc W' hW
  obtain ⟨y0, y1, y2, y3, y4, y5, rfl⟩ := h.four
  have HV : Hid (validE e = (decide (e.count ≤ 40) && (decide (e.depth ≤ 8) && e.okAll))) := rfl
  obtain ⟨q, hq⟩ : ∃ q, q = e.okAll := ⟨_, rfl⟩
  obtain ⟨D, hD⟩ : ∃ D, D = e.depth := ⟨_, rfl⟩
  obtain ⟨N, hN⟩ : ∃ N, N = e.count := ⟨_, rfl⟩
  rw [← hq] at CA HV
  rw [← hD] at CD HV
  rw [← hN] at CL HV
  obtain ⟨V, hV⟩ : ∃ V, V = validE e := ⟨_, rfl⟩
  rw [← hV] at HV ⊢
  have HCL := Lib.hid CL; have HCD := Lib.hid CD; have HCA := Lib.hid CA
  clear CL CD CA h hc hq hD hN hV
  by_cases g1 : N ≤ 40
  · have g3 : (N : Int) ≤ 40 := by omega
    by_cases d1 : D ≤ 8
    · have d2 : (D : Int) ≤ 8 := by omega
      have HR : Hid (V = q) := by unfold Hid; rw [HV.out]; simp [d1, g1]
      clear HV d1 g1
      go_enter Try.func55, Try.ntmps55
      go_wp2_with fail
      refine (HCL.out _ ((Later.rfl' _).alloc _)).mono ?_; rintro r w1 ⟨rfl, hb1⟩
      obtain ⟨a0, a1, a2, a3⟩ := box4 hb1
      go_wp2_with fail
      refine (HCD.out _ (((Later.rfl' _).alloc _).trans hb1)).mono ?_; rintro r w2 ⟨rfl, hb2⟩
      have hb2 := hb1.trans hb2
      clear a0 a1 a2 a3
      obtain ⟨a0, a1, a2, a3⟩ := box4 hb2
      go_wp2_with fail
      refine (HCA.out _ (((Later.rfl' _).alloc _).trans hb2)).mono ?_; rintro r w3 ⟨rfl, hb3⟩
      go_wp2_with fail
      go_ret
      exact ⟨ret_bool HR.out.symm, ((Later.rfl' _).alloc _).trans (hb2.trans hb3)⟩
    · have d2 : (8 : Int) < (D : Int) := by omega
      have d3 : decide ((D : Int) ≤ 8) = false := by simp; omega
      have HR : Hid (V = false) := by unfold Hid; rw [HV.out]; simp [d1]
      clear HV d1 g1
      go_enter Try.func55, Try.ntmps55
      go_wp2_with fail
      refine (HCL.out _ ((Later.rfl' _).alloc _)).mono ?_; rintro r w1 ⟨rfl, hb1⟩
      obtain ⟨a0, a1, a2, a3⟩ := box4 hb1
      go_wp2_with fail
      refine (HCD.out _ (((Later.rfl' _).alloc _).trans hb1)).mono ?_; rintro r w2 ⟨rfl, hb2⟩
      go_wp2_with fail
      go_ret
      exact ⟨ret_bool HR.out.symm, ((Later.rfl' _).alloc _).trans (hb1.trans hb2)⟩
  · have g2 : (40 : Int) < (N : Int) := by omega
    have g3 : decide ((N : Int) ≤ 40) = false := by simp; omega
    have HR : Hid (V = false) := by unfold Hid; rw [HV.out]; simp [g1]
    clear HV g1
    go_enter Try.func55, Try.ntmps55
    go_wp2_with fail
    refine (HCL.out _ ((Later.rfl' _).alloc _)).mono ?_; rintro r w1 ⟨rfl, hb1⟩
    go_wp2_with fail
    go_ret
    exact ⟨ret_bool HR.out.symm, ((Later.rfl' _).alloc _).trans hb1⟩


end Go.Proofs.Ytghemlokpfipoaa
