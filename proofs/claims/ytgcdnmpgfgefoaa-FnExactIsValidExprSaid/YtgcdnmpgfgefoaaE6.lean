/-
  The laws FnExactNodeCount, FnExactNestingOf, FnExactHasEffect, FnExactEqualExpr: their walks.
-/
import Derived.Test.YtgcdnmpgfgefoaaE5
import Derived.Deep.RegionHeld3
namespace Go.Proofs.Ytgcdnmpgfgefoaa
open Go.ChangeShapes Go.WideShapes Go.ChangeAt Go.RowKit
set_option linter.unusedVariables false
set_option linter.unusedSimpArgs false

theorem eqExpr_self {w : World} {S S' : Nat → Prop} {e : Ex} {cs cs' : List Value} (h : ExAt w S e cs) (h' : ExAt w S' e cs') :
    Calls Try.prog 14 #[.agg cs.toArray, .agg cs'.toArray] w fun r w' => r = .returned (.bool true) ∧ Later w w' := by
  have := eqExpr w S e cs h S' e cs' h' w (Later.rfl' _)
  rw [eqv_self] at this
  exact this

/-- What a function answers for an expression, in the world in which it lies. -/
def Answers (f : FuncId) (e : Ex) (r : Ending) : Prop := ∀ (W : World) (S : Nat → Prop) (cs : List Value), ExAt W S e cs → Calls Try.prog f #[.agg cs.toArray] W fun x w' => x = r ∧ Later W w'

theorem walk_FnExactNodeCount (v : Value) (e : Ex) (w : World) (h : ExprAt w v e) : Calls Try.prog 3 #[v] w fun r w' => r = .returned (.bool true) ∧ Later w w' := by
  obtain ⟨cs, rfl, h⟩ := h
  have CSZ := fun W (hW : Later w W) => szExpr w anyB e cs h 1048576 (by omega) (by omega) W hW
  have CTO := toExpr w anyB e cs h
  obtain ⟨y0, y1, y2, y3, y4, y5, rfl⟩ := h.four
  by_cases hc : e.cost ≤ 1048576
  · have hsz : szR 1048576 e.cost = 1048576 - e.cost := szR_small (by omega)
    have hsz0 : (0 : Int) ≤ 1048576 - (e.cost : Int) := by omega
    rw [hsz] at CSZ
    have HSZ := Lib.hid CSZ
    have HTO := Lib.hid (CTO hc)
    have hcnt := count_le e
    have hdep := depth_le e
    have CA : Answers 11 e (.returned (.int .i64 (e.count : Nat))) := fun W S cs h => specNodeCount W S e cs h (by omega) W (Later.rfl' _)
    have CB : Answers 13 e (.returned (.int .i64 (e.count : Nat))) := fun W S cs h => implNodeCount W S e cs h (by omega) W (Later.rfl' _)
    obtain ⟨q, hq⟩ : ∃ q, q = (((e.count : Nat) : Int)) := ⟨_, rfl⟩
    rw [← hq] at CA CB
    have HA := Lib.hid CA
    have HB := Lib.hid CB
    clear CSZ CTO hsz h hc hcnt hdep CA CB hq
    go_enter Try.func3, Try.ntmps3
    go_wp2_with fail
    refine (HSZ.out _ ((Later.rfl' _).alloc _)).mono ?_; rintro r w1 ⟨rfl, hb1⟩
    obtain ⟨a0, a1, a2, a3⟩ := box4 hb1
    go_wp2_with fail
    have l1 := ((Later.rfl' w).alloc _).trans hb1
    refine (HTO.out _ l1).mono ?_; rintro r w2 ⟨⟨p0, p1, p2, p3, p4, p5, rfl, hx2⟩, hb2⟩
    go_wp2_with fail
    refine (HA.out _ _ _ hx2).mono ?_; rintro r w3 ⟨rfl, hb3⟩
    have l3 := l1.trans (hb2.trans hb3)
    clear a0 a1 a2 a3
    obtain ⟨a0, a1, a2, a3⟩ := box4 (hb1.trans (hb2.trans hb3))
    go_wp2_with fail
    refine (HTO.out _ l3).mono ?_; rintro r w4 ⟨⟨q0, q1, q2, q3, q4, q5, rfl, hx4⟩, hb4⟩
    have HX4 := Lib.hid hx4
    clear hx4 a0 a1 a2 a3 hx2
    go_wp2_with fail
    refine (HB.out _ _ _ (HX4.out.later ((Later.rfl' _).alloc _))).mono ?_; rintro r w5 ⟨rfl, hb5⟩
    obtain ⟨c0, c1, c2, c3⟩ := box4 hb5
    have l5 : Later w w5.drew := (l3.trans (hb4.trans (((Later.rfl' _).alloc _).trans hb5))).drew
    have hx5 := HX4.out.later (((Later.rfl' _).alloc _).trans hb5.drew)
    obtain ⟨a0, a1, a2, a3⟩ := box4 (hb1.trans (hb2.trans (hb3.trans (hb4.trans (((Later.rfl' _).alloc _).trans hb5)))))
    have HX5 := Lib.hid hx5
    have HL5 := Lib.hid l5
    clear hx5 l5 l3 l1 hb1
    go_wp2_with fail
    go_region_held3 (fun w' => w'.cell? ⟨w.heap.size, 0, none⟩ = some (.int .i64 y0) ∧ w'.cell? ⟨w.heap.size, 1, none⟩ = some (.int .i64 y1) ∧ w'.cell? ⟨w.heap.size, 2, none⟩ = some (.string y2) ∧ w'.cell? ⟨w.heap.size, 3, none⟩ = some (.slice y3 y4 y5) ∧ w'.cell? ⟨w4.heap.size, 0, none⟩ = some (.int .i64 q0) ∧ w'.cell? ⟨w4.heap.size, 1, none⟩ = some (.int .i64 q1) ∧ w'.cell? ⟨w4.heap.size, 2, none⟩ = some (.string q2) ∧ w'.cell? ⟨w4.heap.size, 3, none⟩ = some (.slice q3 q4 q5))
      (first | exact ⟨a0, a1, a2, a3, c0, c1, c2, c3⟩ | exact ⟨kept_cell hb6 a0, kept_cell hb6 a1, kept_cell hb6 a2, kept_cell hb6 a3, kept_cell hb6 c0, kept_cell hb6 c1, kept_cell hb6 c2, kept_cell hb6 c3⟩ | exact ⟨kept_cell hb7 (kept_cell hb6 a0), kept_cell hb7 (kept_cell hb6 a1), kept_cell hb7 (kept_cell hb6 a2), kept_cell hb7 (kept_cell hb6 a3), kept_cell hb7 (kept_cell hb6 c0), kept_cell hb7 (kept_cell hb6 c1), kept_cell hb7 (kept_cell hb6 c2), kept_cell hb7 (kept_cell hb6 c3)⟩)
      (first | (go_at_call 12; refine (HTO.out _ HL5.out).mono ?_; rintro r w6 ⟨⟨r0, r1, r2, r3, r4, r5, rfl, hx6⟩, hb6⟩; have HX6 := Lib.hid hx6; clear hx6) | (go_at_call 14; refine (eqExpr_self (HX5.out.later hb6) HX6.out).mono ?_; rintro r w7 ⟨rfl, hb7⟩))
    go_wp2_with fail
    go_ret
    exact ⟨rfl, HL5.out.trans (hb6.trans hb7)⟩
  · have hsz : szR 1048576 e.cost = -1 := szR_big (by omega)
    rw [hsz] at CSZ
    have HSZ := Lib.hid CSZ
    clear CSZ CTO hsz h hc
    go_enter Try.func3, Try.ntmps3
    go_wp2_with fail
    refine (HSZ.out _ ((Later.rfl' _).alloc _)).mono ?_; rintro r w1 ⟨rfl, hb1⟩
    go_wp2_with fail
    go_ret
    exact ⟨rfl, ((Later.rfl' w).alloc _).trans hb1⟩

theorem walk_FnExactNestingOf (v : Value) (e : Ex) (w : World) (h : ExprAt w v e) : Calls Try.prog 4 #[v] w fun r w' => r = .returned (.bool true) ∧ Later w w' := by
  obtain ⟨cs, rfl, h⟩ := h
  have CSZ := fun W (hW : Later w W) => szExpr w anyB e cs h 1048576 (by omega) (by omega) W hW
  have CTO := toExpr w anyB e cs h
  obtain ⟨y0, y1, y2, y3, y4, y5, rfl⟩ := h.four
  by_cases hc : e.cost ≤ 1048576
  · have hsz : szR 1048576 e.cost = 1048576 - e.cost := szR_small (by omega)
    have hsz0 : (0 : Int) ≤ 1048576 - (e.cost : Int) := by omega
    rw [hsz] at CSZ
    have HSZ := Lib.hid CSZ
    have HTO := Lib.hid (CTO hc)
    have hcnt := count_le e
    have hdep := depth_le e
    have CA : Answers 15 e (.returned (.int .i64 (e.depth : Nat))) := fun W S cs h => specNestingOf W S e cs h (by omega) W (Later.rfl' _)
    have CB : Answers 16 e (.returned (.int .i64 (e.depth : Nat))) := fun W S cs h => implNestingOf W S e cs h (by omega) W (Later.rfl' _)
    obtain ⟨q, hq⟩ : ∃ q, q = (((e.depth : Nat) : Int)) := ⟨_, rfl⟩
    rw [← hq] at CA CB
    have HA := Lib.hid CA
    have HB := Lib.hid CB
    clear CSZ CTO hsz h hc hcnt hdep CA CB hq
    go_enter Try.func4, Try.ntmps4
    go_wp2_with fail
    refine (HSZ.out _ ((Later.rfl' _).alloc _)).mono ?_; rintro r w1 ⟨rfl, hb1⟩
    obtain ⟨a0, a1, a2, a3⟩ := box4 hb1
    go_wp2_with fail
    have l1 := ((Later.rfl' w).alloc _).trans hb1
    refine (HTO.out _ l1).mono ?_; rintro r w2 ⟨⟨p0, p1, p2, p3, p4, p5, rfl, hx2⟩, hb2⟩
    go_wp2_with fail
    refine (HA.out _ _ _ hx2).mono ?_; rintro r w3 ⟨rfl, hb3⟩
    have l3 := l1.trans (hb2.trans hb3)
    clear a0 a1 a2 a3
    obtain ⟨a0, a1, a2, a3⟩ := box4 (hb1.trans (hb2.trans hb3))
    go_wp2_with fail
    refine (HTO.out _ l3).mono ?_; rintro r w4 ⟨⟨q0, q1, q2, q3, q4, q5, rfl, hx4⟩, hb4⟩
    have HX4 := Lib.hid hx4
    clear hx4 a0 a1 a2 a3 hx2
    go_wp2_with fail
    refine (HB.out _ _ _ (HX4.out.later ((Later.rfl' _).alloc _))).mono ?_; rintro r w5 ⟨rfl, hb5⟩
    obtain ⟨c0, c1, c2, c3⟩ := box4 hb5
    have l5 : Later w w5.drew := (l3.trans (hb4.trans (((Later.rfl' _).alloc _).trans hb5))).drew
    have hx5 := HX4.out.later (((Later.rfl' _).alloc _).trans hb5.drew)
    obtain ⟨a0, a1, a2, a3⟩ := box4 (hb1.trans (hb2.trans (hb3.trans (hb4.trans (((Later.rfl' _).alloc _).trans hb5)))))
    have HX5 := Lib.hid hx5
    have HL5 := Lib.hid l5
    clear hx5 l5 l3 l1 hb1
    go_wp2_with fail
    go_region_held3 (fun w' => w'.cell? ⟨w.heap.size, 0, none⟩ = some (.int .i64 y0) ∧ w'.cell? ⟨w.heap.size, 1, none⟩ = some (.int .i64 y1) ∧ w'.cell? ⟨w.heap.size, 2, none⟩ = some (.string y2) ∧ w'.cell? ⟨w.heap.size, 3, none⟩ = some (.slice y3 y4 y5) ∧ w'.cell? ⟨w4.heap.size, 0, none⟩ = some (.int .i64 q0) ∧ w'.cell? ⟨w4.heap.size, 1, none⟩ = some (.int .i64 q1) ∧ w'.cell? ⟨w4.heap.size, 2, none⟩ = some (.string q2) ∧ w'.cell? ⟨w4.heap.size, 3, none⟩ = some (.slice q3 q4 q5))
      (first | exact ⟨a0, a1, a2, a3, c0, c1, c2, c3⟩ | exact ⟨kept_cell hb6 a0, kept_cell hb6 a1, kept_cell hb6 a2, kept_cell hb6 a3, kept_cell hb6 c0, kept_cell hb6 c1, kept_cell hb6 c2, kept_cell hb6 c3⟩ | exact ⟨kept_cell hb7 (kept_cell hb6 a0), kept_cell hb7 (kept_cell hb6 a1), kept_cell hb7 (kept_cell hb6 a2), kept_cell hb7 (kept_cell hb6 a3), kept_cell hb7 (kept_cell hb6 c0), kept_cell hb7 (kept_cell hb6 c1), kept_cell hb7 (kept_cell hb6 c2), kept_cell hb7 (kept_cell hb6 c3)⟩)
      (first | (go_at_call 12; refine (HTO.out _ HL5.out).mono ?_; rintro r w6 ⟨⟨r0, r1, r2, r3, r4, r5, rfl, hx6⟩, hb6⟩; have HX6 := Lib.hid hx6; clear hx6) | (go_at_call 14; refine (eqExpr_self (HX5.out.later hb6) HX6.out).mono ?_; rintro r w7 ⟨rfl, hb7⟩))
    go_wp2_with fail
    go_ret
    exact ⟨rfl, HL5.out.trans (hb6.trans hb7)⟩
  · have hsz : szR 1048576 e.cost = -1 := szR_big (by omega)
    rw [hsz] at CSZ
    have HSZ := Lib.hid CSZ
    clear CSZ CTO hsz h hc
    go_enter Try.func4, Try.ntmps4
    go_wp2_with fail
    refine (HSZ.out _ ((Later.rfl' _).alloc _)).mono ?_; rintro r w1 ⟨rfl, hb1⟩
    go_wp2_with fail
    go_ret
    exact ⟨rfl, ((Later.rfl' w).alloc _).trans hb1⟩

theorem walk_FnExactHasEffect (v : Value) (e : Ex) (w : World) (h : ExprAt w v e) : Calls Try.prog 6 #[v] w fun r w' => r = .returned (.bool true) ∧ Later w w' := by
  obtain ⟨cs, rfl, h⟩ := h
  have CSZ := fun W (hW : Later w W) => szExpr w anyB e cs h 1048576 (by omega) (by omega) W hW
  have CTO := toExpr w anyB e cs h
  obtain ⟨y0, y1, y2, y3, y4, y5, rfl⟩ := h.four
  by_cases hc : e.cost ≤ 1048576
  · have hsz : szR 1048576 e.cost = 1048576 - e.cost := szR_small (by omega)
    have hsz0 : (0 : Int) ≤ 1048576 - (e.cost : Int) := by omega
    rw [hsz] at CSZ
    have HSZ := Lib.hid CSZ
    have HTO := Lib.hid (CTO hc)
    have hcnt := count_le e
    have hdep := depth_le e
    have CA : Answers 19 e (.returned (.bool e.hasEff)) := fun W S cs h => specHasEffect W S e cs h W (Later.rfl' _)
    have CB : Answers 20 e (.returned (.bool e.hasEff)) := fun W S cs h => implHasEffect W S e cs h W (Later.rfl' _)
    obtain ⟨q, hq⟩ : ∃ q, q = (e.hasEff) := ⟨_, rfl⟩
    rw [← hq] at CA CB
    have HA := Lib.hid CA
    have HB := Lib.hid CB
    clear CSZ CTO hsz h hc hcnt hdep CA CB hq
    go_enter Try.func6, Try.ntmps6
    go_wp2_with fail
    refine (HSZ.out _ ((Later.rfl' _).alloc _)).mono ?_; rintro r w1 ⟨rfl, hb1⟩
    obtain ⟨a0, a1, a2, a3⟩ := box4 hb1
    go_wp2_with fail
    have l1 := ((Later.rfl' w).alloc _).trans hb1
    refine (HTO.out _ l1).mono ?_; rintro r w2 ⟨⟨p0, p1, p2, p3, p4, p5, rfl, hx2⟩, hb2⟩
    go_wp2_with fail
    refine (HA.out _ _ _ hx2).mono ?_; rintro r w3 ⟨rfl, hb3⟩
    have l3 := l1.trans (hb2.trans hb3)
    clear a0 a1 a2 a3
    obtain ⟨a0, a1, a2, a3⟩ := box4 (hb1.trans (hb2.trans hb3))
    go_wp2_with fail
    refine (HTO.out _ l3).mono ?_; rintro r w4 ⟨⟨q0, q1, q2, q3, q4, q5, rfl, hx4⟩, hb4⟩
    have HX4 := Lib.hid hx4
    clear hx4 a0 a1 a2 a3 hx2
    go_wp2_with fail
    refine (HB.out _ _ _ (HX4.out.later ((Later.rfl' _).alloc _))).mono ?_; rintro r w5 ⟨rfl, hb5⟩
    obtain ⟨c0, c1, c2, c3⟩ := box4 hb5
    have l5 : Later w w5.drew := (l3.trans (hb4.trans (((Later.rfl' _).alloc _).trans hb5))).drew
    have hx5 := HX4.out.later (((Later.rfl' _).alloc _).trans hb5.drew)
    obtain ⟨a0, a1, a2, a3⟩ := box4 (hb1.trans (hb2.trans (hb3.trans (hb4.trans (((Later.rfl' _).alloc _).trans hb5)))))
    have HX5 := Lib.hid hx5
    have HL5 := Lib.hid l5
    clear hx5 l5 l3 l1 hb1
    go_wp2_with fail
    go_region_held3 (fun w' => w'.cell? ⟨w.heap.size, 0, none⟩ = some (.int .i64 y0) ∧ w'.cell? ⟨w.heap.size, 1, none⟩ = some (.int .i64 y1) ∧ w'.cell? ⟨w.heap.size, 2, none⟩ = some (.string y2) ∧ w'.cell? ⟨w.heap.size, 3, none⟩ = some (.slice y3 y4 y5) ∧ w'.cell? ⟨w4.heap.size, 0, none⟩ = some (.int .i64 q0) ∧ w'.cell? ⟨w4.heap.size, 1, none⟩ = some (.int .i64 q1) ∧ w'.cell? ⟨w4.heap.size, 2, none⟩ = some (.string q2) ∧ w'.cell? ⟨w4.heap.size, 3, none⟩ = some (.slice q3 q4 q5))
      (first | exact ⟨a0, a1, a2, a3, c0, c1, c2, c3⟩ | exact ⟨kept_cell hb6 a0, kept_cell hb6 a1, kept_cell hb6 a2, kept_cell hb6 a3, kept_cell hb6 c0, kept_cell hb6 c1, kept_cell hb6 c2, kept_cell hb6 c3⟩ | exact ⟨kept_cell hb7 (kept_cell hb6 a0), kept_cell hb7 (kept_cell hb6 a1), kept_cell hb7 (kept_cell hb6 a2), kept_cell hb7 (kept_cell hb6 a3), kept_cell hb7 (kept_cell hb6 c0), kept_cell hb7 (kept_cell hb6 c1), kept_cell hb7 (kept_cell hb6 c2), kept_cell hb7 (kept_cell hb6 c3)⟩)
      (first | (go_at_call 12; refine (HTO.out _ HL5.out).mono ?_; rintro r w6 ⟨⟨r0, r1, r2, r3, r4, r5, rfl, hx6⟩, hb6⟩; have HX6 := Lib.hid hx6; clear hx6) | (go_at_call 14; refine (eqExpr_self (HX5.out.later hb6) HX6.out).mono ?_; rintro r w7 ⟨rfl, hb7⟩))
    go_wp2_with fail
    go_ret
    exact ⟨rfl, HL5.out.trans (hb6.trans hb7)⟩
  · have hsz : szR 1048576 e.cost = -1 := szR_big (by omega)
    rw [hsz] at CSZ
    have HSZ := Lib.hid CSZ
    clear CSZ CTO hsz h hc
    go_enter Try.func6, Try.ntmps6
    go_wp2_with fail
    refine (HSZ.out _ ((Later.rfl' _).alloc _)).mono ?_; rintro r w1 ⟨rfl, hb1⟩
    go_wp2_with fail
    go_ret
    exact ⟨rfl, ((Later.rfl' w).alloc _).trans hb1⟩
end Go.Proofs.Ytgcdnmpgfgefoaa
