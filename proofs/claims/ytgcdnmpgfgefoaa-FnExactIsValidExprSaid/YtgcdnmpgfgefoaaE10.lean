/-
  Expressions: IsValidExpr, and its law: the walks.
-/
import Derived.Test.YtgcdnmpgfgefoaaE9
import Derived.Test.YtgcdnmpgfgefoaaE6
namespace Go.Proofs.Ytgcdnmpgfgefoaa
open Go.ChangeShapes Go.WideShapes Go.ChangeAt Go.RowKit
set_option linter.unusedVariables false
set_option linter.unusedSimpArgs false

def validE (e : Ex) : Bool := decide (e.count ≤ 40) && (decide (e.depth ≤ 8) && e.okAll)

theorem specIsValidExpr {W : World} {S : Nat → Prop} {e : Ex} {cs : List Value} (h : ExAt W S e cs) (hc : e.cost ≤ 1048576) : Calls Try.prog 21 #[.agg cs.toArray] W fun r w' => r = .returned (.bool (validE e)) ∧ Later W w' := by
  have CL := fun W' hW => specl10Left W S e cs h hc 40 W' (by omega) (by omega) hW
  have CD := fun W' hW => specNestingOf W S e cs h (by have := count_le e; have := depth_le e; omega) W' hW
  have CA := fun W' hW => specl10All W S e cs h hc W' hW
  obtain ⟨y0, y1, y2, y3, y4, y5, rfl⟩ := h.four
  have HV : Hid (validE e = (decide (e.count ≤ 40) && (decide (e.depth ≤ 8) && e.okAll))) := rfl
  obtain ⟨q, hq⟩ : ∃ q, q = e.okAll := ⟨_, rfl⟩
  obtain ⟨D, hD⟩ : ∃ D, D = e.depth := ⟨_, rfl⟩
  obtain ⟨N, hN⟩ : ∃ N, N = e.count := ⟨_, rfl⟩
  rw [← hq] at CA HV
  rw [← hD] at CD HV
  rw [← hN] at CL HV
  obtain ⟨V, hV⟩ : ∃ V, V = validE e := ⟨_, rfl⟩
  rw [← hV] at HV ⊢
  have HCL := Lib.hid CL; have HCD := Lib.hid CD; have HCA := Lib.hid CA
  clear CL CD CA h hc hq hD hN hV
  rcases leftOf_ways 40 N with ⟨g1, g2⟩ | ⟨g1, g2⟩
  · have g3 : (0 : Int) ≤ 40 - (N : Int) := by omega
    rw [g2] at HCL
    by_cases d1 : D ≤ 8
    · have d2 : (D : Int) ≤ 8 := by omega
      have HR : Hid (V = q) := by unfold Hid; rw [HV.out]; simp [d1, show N ≤ 40 by omega]
      clear HV d1 g1 g2
      go_enter Try.func21, Try.ntmps21
      go_wp2_with fail
      refine (HCL.out _ ((Later.rfl' _).alloc _)).mono ?_; rintro r w1 ⟨rfl, hb1⟩
      obtain ⟨a0, a1, a2, a3⟩ := box4 hb1
      go_wp2_with fail
      refine (HCD.out _ (((Later.rfl' _).alloc _).trans hb1)).mono ?_; rintro r w2 ⟨rfl, hb2⟩
      have hb2 := hb1.trans hb2
      clear a0 a1 a2 a3
      obtain ⟨a0, a1, a2, a3⟩ := box4 hb2
      go_wp2_with fail
      refine (HCA.out _ (((Later.rfl' _).alloc _).trans hb2)).mono ?_; rintro r w3 ⟨rfl, hb3⟩
      go_wp2_with fail
      go_ret
      exact ⟨ret_bool HR.out.symm, ((Later.rfl' _).alloc _).trans (hb2.trans hb3)⟩
    · have d2 : (8 : Int) < (D : Int) := by omega
      have d3 : decide ((D : Int) ≤ 8) = false := by simp; omega
      have HR : Hid (V = false) := by unfold Hid; rw [HV.out]; simp [d1]
      clear HV d1 g1 g2
      go_enter Try.func21, Try.ntmps21
      go_wp2_with fail
      refine (HCL.out _ ((Later.rfl' _).alloc _)).mono ?_; rintro r w1 ⟨rfl, hb1⟩
      obtain ⟨a0, a1, a2, a3⟩ := box4 hb1
      go_wp2_with fail
      refine (HCD.out _ (((Later.rfl' _).alloc _).trans hb1)).mono ?_; rintro r w2 ⟨rfl, hb2⟩
      go_wp2_with fail
      go_ret
      exact ⟨ret_bool HR.out.symm, ((Later.rfl' _).alloc _).trans (hb1.trans hb2)⟩
  · rw [g2] at HCL
    have HR : Hid (V = false) := by unfold Hid; rw [HV.out]; simp [show ¬ N ≤ 40 by omega]
    clear HV g1 g2
    go_enter Try.func21, Try.ntmps21
    go_wp2_with fail
    refine (HCL.out _ ((Later.rfl' _).alloc _)).mono ?_; rintro r w1 ⟨rfl, hb1⟩
    go_wp2_with fail
    go_ret
    exact ⟨ret_bool HR.out.symm, ((Later.rfl' _).alloc _).trans hb1⟩

theorem implIsValidExpr {W : World} {S : Nat → Prop} {e : Ex} {cs : List Value} (h : ExAt W S e cs) (hc : e.cost ≤ 1048576) : Calls Try.prog 22 #[.agg cs.toArray] W fun r w' => r = .returned (.bool (validE e)) ∧ Later W w' := by
  have CL := fun W' hW => implNodeCount W S e cs h (by have := count_le e; omega) W' hW
  have CD := fun W' hW => implNestingOf W S e cs h (by have := count_le e; have := depth_le e; omega) W' hW
  have CA := fun W' hW => implareNodes W S e cs h hc W' hW
  obtain ⟨y0, y1, y2, y3, y4, y5, rfl⟩ := h.four
  have HV : Hid (validE e = (decide (e.count ≤ 40) && (decide (e.depth ≤ 8) && e.okAll))) := rfl
  obtain ⟨q, hq⟩ : ∃ q, q = e.okAll := ⟨_, rfl⟩
  obtain ⟨D, hD⟩ : ∃ D, D = e.depth := ⟨_, rfl⟩
  obtain ⟨N, hN⟩ : ∃ N, N = e.count := ⟨_, rfl⟩
  rw [← hq] at CA HV
  rw [← hD] at CD HV
  rw [← hN] at CL HV
  obtain ⟨V, hV⟩ : ∃ V, V = validE e := ⟨_, rfl⟩
  rw [← hV] at HV ⊢
  have HCL := Lib.hid CL; have HCD := Lib.hid CD; have HCA := Lib.hid CA
  clear CL CD CA h hc hq hD hN hV
  by_cases g1 : N ≤ 40
  · have g3 : (N : Int) ≤ 40 := by omega
    by_cases d1 : D ≤ 8
    · have d2 : (D : Int) ≤ 8 := by omega
      have HR : Hid (V = q) := by unfold Hid; rw [HV.out]; simp [d1, g1]
      clear HV d1 g1
      go_enter Try.func22, Try.ntmps22
      go_wp2_with fail
      refine (HCL.out _ ((Later.rfl' _).alloc _)).mono ?_; rintro r w1 ⟨rfl, hb1⟩
      obtain ⟨a0, a1, a2, a3⟩ := box4 hb1
      go_wp2_with fail
      refine (HCD.out _ (((Later.rfl' _).alloc _).trans hb1)).mono ?_; rintro r w2 ⟨rfl, hb2⟩
      have hb2 := hb1.trans hb2
      clear a0 a1 a2 a3
      obtain ⟨a0, a1, a2, a3⟩ := box4 hb2
      go_wp2_with fail
      refine (HCA.out _ (((Later.rfl' _).alloc _).trans hb2)).mono ?_; rintro r w3 ⟨rfl, hb3⟩
      go_wp2_with fail
      go_ret
      exact ⟨ret_bool HR.out.symm, ((Later.rfl' _).alloc _).trans (hb2.trans hb3)⟩
    · have d2 : (8 : Int) < (D : Int) := by omega
      have d3 : decide ((D : Int) ≤ 8) = false := by simp; omega
      have HR : Hid (V = false) := by unfold Hid; rw [HV.out]; simp [d1]
      clear HV d1 g1
      go_enter Try.func22, Try.ntmps22
      go_wp2_with fail
      refine (HCL.out _ ((Later.rfl' _).alloc _)).mono ?_; rintro r w1 ⟨rfl, hb1⟩
      obtain ⟨a0, a1, a2, a3⟩ := box4 hb1
      go_wp2_with fail
      refine (HCD.out _ (((Later.rfl' _).alloc _).trans hb1)).mono ?_; rintro r w2 ⟨rfl, hb2⟩
      go_wp2_with fail
      go_ret
      exact ⟨ret_bool HR.out.symm, ((Later.rfl' _).alloc _).trans (hb1.trans hb2)⟩
  · have g2 : (40 : Int) < (N : Int) := by omega
    have g3 : decide ((N : Int) ≤ 40) = false := by simp; omega
    have HR : Hid (V = false) := by unfold Hid; rw [HV.out]; simp [g1]
    clear HV g1
    go_enter Try.func22, Try.ntmps22
    go_wp2_with fail
    refine (HCL.out _ ((Later.rfl' _).alloc _)).mono ?_; rintro r w1 ⟨rfl, hb1⟩
    go_wp2_with fail
    go_ret
    exact ⟨ret_bool HR.out.symm, ((Later.rfl' _).alloc _).trans hb1⟩


theorem walk_FnExactIsValidExpr (v : Value) (e : Ex) (w : World) (h : ExprAt w v e) : Calls Try.prog 7 #[v] w fun r w' => r = .returned (.bool true) ∧ Later w w' := by
  obtain ⟨cs, rfl, h⟩ := h
  have CSZ := fun W (hW : Later w W) => szExpr w anyB e cs h 1048576 (by omega) (by omega) W hW
  have CTO := toExpr w anyB e cs h
  obtain ⟨y0, y1, y2, y3, y4, y5, rfl⟩ := h.four
  by_cases hc : e.cost ≤ 1048576
  · have hsz : szR 1048576 e.cost = 1048576 - e.cost := szR_small (by omega)
    have hsz0 : (0 : Int) ≤ 1048576 - (e.cost : Int) := by omega
    rw [hsz] at CSZ
    have HSZ := Lib.hid CSZ
    have HTO := Lib.hid (CTO hc)
    have hcnt := count_le e
    have hdep := depth_le e
    have CA : Answers 21 e (.returned (.bool (validE e))) := fun W S cs h => specIsValidExpr h hc
    have CB : Answers 22 e (.returned (.bool (validE e))) := fun W S cs h => implIsValidExpr h hc
    obtain ⟨q, hq⟩ : ∃ q, q = (validE e) := ⟨_, rfl⟩
    rw [← hq] at CA CB
    have HA := Lib.hid CA
    have HB := Lib.hid CB
    clear CSZ CTO hsz h hc hcnt hdep CA CB hq
    go_enter Try.func7, Try.ntmps7
    go_wp2_with fail
    refine (HSZ.out _ ((Later.rfl' _).alloc _)).mono ?_; rintro r w1 ⟨rfl, hb1⟩
    obtain ⟨a0, a1, a2, a3⟩ := box4 hb1
    go_wp2_with fail
    have l1 := ((Later.rfl' w).alloc _).trans hb1
    refine (HTO.out _ l1).mono ?_; rintro r w2 ⟨⟨p0, p1, p2, p3, p4, p5, rfl, hx2⟩, hb2⟩
    go_wp2_with fail
    refine (HA.out _ _ _ hx2).mono ?_; rintro r w3 ⟨rfl, hb3⟩
    have l3 := l1.trans (hb2.trans hb3)
    clear a0 a1 a2 a3
    obtain ⟨a0, a1, a2, a3⟩ := box4 (hb1.trans (hb2.trans hb3))
    go_wp2_with fail
    refine (HTO.out _ l3).mono ?_; rintro r w4 ⟨⟨q0, q1, q2, q3, q4, q5, rfl, hx4⟩, hb4⟩
    have HX4 := Lib.hid hx4
    clear hx4 a0 a1 a2 a3 hx2
    go_wp2_with fail
    refine (HB.out _ _ _ (HX4.out.later ((Later.rfl' _).alloc _))).mono ?_; rintro r w5 ⟨rfl, hb5⟩
    obtain ⟨c0, c1, c2, c3⟩ := box4 hb5
    have l5 : Later w w5.drew := (l3.trans (hb4.trans (((Later.rfl' _).alloc _).trans hb5))).drew
    have hx5 := HX4.out.later (((Later.rfl' _).alloc _).trans hb5.drew)
    obtain ⟨a0, a1, a2, a3⟩ := box4 (hb1.trans (hb2.trans (hb3.trans (hb4.trans (((Later.rfl' _).alloc _).trans hb5)))))
    have HX5 := Lib.hid hx5
    have HL5 := Lib.hid l5
    clear hx5 l5 l3 l1 hb1
    go_wp2_with fail
    go_region_held3 (fun w' => w'.cell? ⟨w.heap.size, 0, none⟩ = some (.int .i64 y0) ∧ w'.cell? ⟨w.heap.size, 1, none⟩ = some (.int .i64 y1) ∧ w'.cell? ⟨w.heap.size, 2, none⟩ = some (.string y2) ∧ w'.cell? ⟨w.heap.size, 3, none⟩ = some (.slice y3 y4 y5) ∧ w'.cell? ⟨w4.heap.size, 0, none⟩ = some (.int .i64 q0) ∧ w'.cell? ⟨w4.heap.size, 1, none⟩ = some (.int .i64 q1) ∧ w'.cell? ⟨w4.heap.size, 2, none⟩ = some (.string q2) ∧ w'.cell? ⟨w4.heap.size, 3, none⟩ = some (.slice q3 q4 q5))
      (first | exact ⟨a0, a1, a2, a3, c0, c1, c2, c3⟩ | exact ⟨kept_cell hb6 a0, kept_cell hb6 a1, kept_cell hb6 a2, kept_cell hb6 a3, kept_cell hb6 c0, kept_cell hb6 c1, kept_cell hb6 c2, kept_cell hb6 c3⟩ | exact ⟨kept_cell hb7 (kept_cell hb6 a0), kept_cell hb7 (kept_cell hb6 a1), kept_cell hb7 (kept_cell hb6 a2), kept_cell hb7 (kept_cell hb6 a3), kept_cell hb7 (kept_cell hb6 c0), kept_cell hb7 (kept_cell hb6 c1), kept_cell hb7 (kept_cell hb6 c2), kept_cell hb7 (kept_cell hb6 c3)⟩)
      (first | (go_at_call 12; refine (HTO.out _ HL5.out).mono ?_; rintro r w6 ⟨⟨r0, r1, r2, r3, r4, r5, rfl, hx6⟩, hb6⟩; have HX6 := Lib.hid hx6; clear hx6) | (go_at_call 14; refine (eqExpr_self (HX5.out.later hb6) HX6.out).mono ?_; rintro r w7 ⟨rfl, hb7⟩))
    go_wp2_with fail
    go_ret
    exact ⟨rfl, HL5.out.trans (hb6.trans hb7)⟩
  · have hsz : szR 1048576 e.cost = -1 := szR_big (by omega)
    rw [hsz] at CSZ
    have HSZ := Lib.hid CSZ
    clear CSZ CTO hsz h hc
    go_enter Try.func7, Try.ntmps7
    go_wp2_with fail
    refine (HSZ.out _ ((Later.rfl' _).alloc _)).mono ?_; rintro r w1 ⟨rfl, hb1⟩
    go_wp2_with fail
    go_ret
    exact ⟨rfl, ((Later.rfl' w).alloc _).trans hb1⟩
end Go.Proofs.Ytgcdnmpgfgefoaa
