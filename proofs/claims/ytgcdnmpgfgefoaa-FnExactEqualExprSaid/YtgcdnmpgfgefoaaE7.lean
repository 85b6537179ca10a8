/-
  The law FnExactEqualExpr: its walk.
-/
import Derived.Test.YtgcdnmpgfgefoaaE6
namespace Go.Proofs.Ytgcdnmpgfgefoaa
open Go.ChangeShapes Go.WideShapes Go.ChangeAt Go.RowKit
set_option linter.unusedVariables false
set_option linter.unusedSimpArgs false

theorem box44' {w w1 : World} {t : TypeId} {c0 c1 c2 c3 d0 d1 d2 d3 : Value} (hb : Later ((w.alloc (.cells #[c0, c1, c2, c3] t)).alloc (.cells #[d0, d1, d2, d3] t)) w1) :
    w1.cell? ⟨w.heap.size, 0, none⟩ = some c0 ∧ w1.cell? ⟨w.heap.size, 1, none⟩ = some c1 ∧ w1.cell? ⟨w.heap.size, 2, none⟩ = some c2 ∧ w1.cell? ⟨w.heap.size, 3, none⟩ = some c3 ∧
    w1.cell? ⟨w.heap.size + 1, 0, none⟩ = some d0 ∧ w1.cell? ⟨w.heap.size + 1, 1, none⟩ = some d1 ∧ w1.cell? ⟨w.heap.size + 1, 2, none⟩ = some d2 ∧ w1.cell? ⟨w.heap.size + 1, 3, none⟩ = some d3 :=
  ⟨kept_cell hb (by simp [go_sem]), kept_cell hb (by simp [go_sem]), kept_cell hb (by simp [go_sem]), kept_cell hb (by simp [go_sem]), kept_cell hb (by simp [go_sem]), kept_cell hb (by simp [go_sem]), kept_cell hb (by simp [go_sem]), kept_cell hb (by simp [go_sem])⟩

set_option maxHeartbeats 1000000 in
theorem walk_FnExactEqualExpr (v : Value) (e : Ex) (v' : Value) (e' : Ex) (w : World) (h : ExprAt w v e) (h' : ExprAt w v' e') : Calls Try.prog 5 #[v, v'] w fun r w' => r = .returned (.bool true) ∧ Later w w' := by
  obtain ⟨cs, rfl, h⟩ := h
  obtain ⟨cs', rfl, h'⟩ := h'
  have CSZ := fun W (hW : Later w W) => szExpr w anyB e cs h 1048576 (by omega) (by omega) W hW
  have CSZ' := fun left (h0 : 0 ≤ left) (h1 : left ≤ 1048576) W (hW : Later w W) => szExpr w anyB e' cs' h' left h0 h1 W hW
  have CTO := toExpr w anyB e cs h
  have CTO' := toExpr w anyB e' cs' h'
  have CA : ∀ (W : World) (S S' : Nat → Prop) (cs cs' : List Value), ExAt W S e cs → ExAt W S' e' cs' → Calls Try.prog 17 #[.agg cs.toArray, .agg cs'.toArray] W fun x w' => x = .returned (.bool (e.eqv e')) ∧ Later W w' := fun W S S' cs cs' h h' => specEqualExpr W S e cs h S' e' cs' h' W (Later.rfl' _)
  have CB : ∀ (W : World) (S S' : Nat → Prop) (cs cs' : List Value), ExAt W S e cs → ExAt W S' e' cs' → Calls Try.prog 18 #[.agg cs.toArray, .agg cs'.toArray] W fun x w' => x = .returned (.bool (e.eqv e')) ∧ Later W w' := fun W S S' cs cs' h h' => implEqualExpr W S e cs h S' e' cs' h' W (Later.rfl' _)
  obtain ⟨q, hq⟩ : ∃ q, q = e.eqv e' := ⟨_, rfl⟩
  rw [← hq] at CA CB
  obtain ⟨y0, y1, y2, y3, y4, y5, rfl⟩ := h.four
  obtain ⟨z0, z1, z2, z3, z4, z5, rfl⟩ := h'.four
  have HA := Lib.hid CA
  have HB := Lib.hid CB
  clear CA CB hq h h'
  by_cases hc : e.cost ≤ 1048576
  · have hsz : szR 1048576 e.cost = 1048576 - e.cost := szR_small (by omega)
    have hsz0 : (0 : Int) ≤ 1048576 - (e.cost : Int) := by omega
    rw [hsz] at CSZ
    have CSZ2 := CSZ' (1048576 - e.cost) hsz0 (by omega)
    by_cases hc' : e.cost + e'.cost ≤ 1048576
    · have hsz' : szR (1048576 - e.cost) e'.cost = 1048576 - e.cost - e'.cost := szR_small (by omega)
      have hsz0' : (0 : Int) ≤ 1048576 - (e.cost : Int) - (e'.cost : Int) := by omega
      rw [hsz'] at CSZ2
      have HSZ := Lib.hid CSZ
      have HSZ' := Lib.hid CSZ2
      have HTO := Lib.hid (CTO hc)
      have HTO' := Lib.hid (CTO' (by omega))
      clear CSZ CSZ' CSZ2 CTO CTO' hsz hsz' hc hc'
      go_enter Try.func5, Try.ntmps5
      go_wp2_with fail
      refine (HSZ.out _ (((Later.rfl' _).alloc _).alloc _)).mono ?_; rintro r w1 ⟨rfl, hb1⟩
      obtain ⟨a0, a1, a2, a3, b0, b1, b2, b3⟩ := box44' hb1
      go_wp2_with fail
      have l1 := (((Later.rfl' w).alloc _).alloc _).trans hb1
      refine (HSZ'.out _ l1).mono ?_; rintro r w2 ⟨rfl, hb2⟩
      clear a0 a1 a2 a3 b0 b1 b2 b3
      obtain ⟨a0, a1, a2, a3, b0, b1, b2, b3⟩ := box44' (hb1.trans hb2)
      go_wp2_with fail
      have l2 : Later w w2.drew := (l1.trans hb2).drew
      have HL2 := Lib.hid l2; clear l2
      go_region_held3 (fun w' => w'.cell? ⟨w.heap.size, 0, none⟩ = some (.int .i64 y0) ∧ w'.cell? ⟨w.heap.size, 1, none⟩ = some (.int .i64 y1) ∧ w'.cell? ⟨w.heap.size, 2, none⟩ = some (.string y2) ∧ w'.cell? ⟨w.heap.size, 3, none⟩ = some (.slice y3 y4 y5) ∧ w'.cell? ⟨w.heap.size + 1, 0, none⟩ = some (.int .i64 z0) ∧ w'.cell? ⟨w.heap.size + 1, 1, none⟩ = some (.int .i64 z1) ∧ w'.cell? ⟨w.heap.size + 1, 2, none⟩ = some (.string z2) ∧ w'.cell? ⟨w.heap.size + 1, 3, none⟩ = some (.slice z3 z4 z5))
        (first | exact ⟨a0, a1, a2, a3, b0, b1, b2, b3⟩ | exact ⟨kept_cell hb3 a0, kept_cell hb3 a1, kept_cell hb3 a2, kept_cell hb3 a3, kept_cell hb3 b0, kept_cell hb3 b1, kept_cell hb3 b2, kept_cell hb3 b3⟩ | exact ⟨kept_cell hb4 (kept_cell hb3 a0), kept_cell hb4 (kept_cell hb3 a1), kept_cell hb4 (kept_cell hb3 a2), kept_cell hb4 (kept_cell hb3 a3), kept_cell hb4 (kept_cell hb3 b0), kept_cell hb4 (kept_cell hb3 b1), kept_cell hb4 (kept_cell hb3 b2), kept_cell hb4 (kept_cell hb3 b3)⟩ | exact ⟨kept_cell hb5 (kept_cell hb4 (kept_cell hb3 a0)), kept_cell hb5 (kept_cell hb4 (kept_cell hb3 a1)), kept_cell hb5 (kept_cell hb4 (kept_cell hb3 a2)), kept_cell hb5 (kept_cell hb4 (kept_cell hb3 a3)), kept_cell hb5 (kept_cell hb4 (kept_cell hb3 b0)), kept_cell hb5 (kept_cell hb4 (kept_cell hb3 b1)), kept_cell hb5 (kept_cell hb4 (kept_cell hb3 b2)), kept_cell hb5 (kept_cell hb4 (kept_cell hb3 b3))⟩)
        (first | (go_at_call 12; (with_reducible refine (HTO.out _ HL2.out).mono ?_); rintro r w3 ⟨⟨p0, p1, p2, p3, p4, p5, rfl, hx3⟩, hb3⟩; have HX3 := Lib.hid hx3; clear hx3) | (go_at_call 12; (with_reducible refine (HTO'.out _ (HL2.out.trans hb3)).mono ?_); rintro r w4 ⟨⟨s0, s1, s2, s3, s4, s5, rfl, hx4⟩, hb4⟩; have HX4 := Lib.hid hx4; clear hx4) | (go_at_call 17; refine (HA.out _ _ _ _ _ (HX3.out.later hb4) HX4.out).mono ?_; rintro r w5 ⟨rfl, hb5⟩))
      have l5 : Later w w5 := HL2.out.trans (hb3.trans (hb4.trans hb5))
      have k5 := hb1.trans (hb2.drew.trans (hb3.trans (hb4.trans hb5)))
      clear a0 a1 a2 a3 b0 b1 b2 b3 HX3 HX4
      obtain ⟨a0, a1, a2, a3, b0, b1, b2, b3⟩ := box44' k5
      go_wp2_with fail
      refine (HTO.out _ l5).mono ?_; rintro r w6 ⟨⟨q0, q1, q2, q3, q4, q5, rfl, hx6⟩, hb6⟩
      have HX6 := Lib.hid hx6
      clear a0 a1 a2 a3 b0 b1 b2 b3 hx6
      have l6 : Later w (w6.alloc (.cells #[.int .i64 q0, .int .i64 q1, .string q2, .slice q3 q4 q5] 29)) := (l5.trans hb6).alloc _
      have k6 := (k5.trans hb6).trans ((Later.rfl' w6).alloc (.cells #[.int .i64 q0, .int .i64 q1, .string q2, .slice q3 q4 q5] 29))
      have K6 := Lib.hid k6; have L6 := Lib.hid l6
      clear k6 l6
      obtain ⟨a0, a1, a2, a3, b0, b1, b2, b3⟩ := box44' (k5.trans hb6)
      have z6 : w.heap.size + 1 < w6.heap.size := by have := (k5.trans hb6).size; simp only [World.size_alloc] at this; omega
      have z6' : w.heap.size < w6.heap.size := by omega
      go_wp2_with fail
      refine (HTO'.out _ L6.out).mono ?_; rintro r w7 ⟨⟨r0, r1, r2, r3, r4, r5, rfl, hx7⟩, hb7⟩
      have HX7 := Lib.hid hx7
      have l7 : Later w (w7.alloc (.cells #[.int .i64 r0, .int .i64 r1, .string r2, .slice r3 r4 r5] 29)) := (L6.out.trans hb7).alloc _
      have k7 := (K6.out.trans hb7)
      clear a0 a1 a2 a3 b0 b1 b2 b3 hx7 z6 z6'
      obtain ⟨c0, c1, c2, c3⟩ := box4 hb7
      have z7 : w6.heap.size < w7.heap.size := by have := hb7.size; simp only [World.size_alloc] at this; omega
      go_wp2_with fail
      refine (HB.out _ _ _ _ _ (HX6.out.later (((Later.rfl' _).alloc _).trans (hb7.trans ((Later.rfl' _).alloc _)))) (HX7.out.later ((Later.rfl' _).alloc _))).mono ?_; rintro r w8 ⟨rfl, hb8⟩
      clear c0 c1 c2 c3
      obtain ⟨c0, c1, c2, c3⟩ := box4 (hb7.trans (((Later.rfl' _).alloc _).trans hb8))
      obtain ⟨d0, d1, d2, d3⟩ := box4 hb8
      obtain ⟨a0, a1, a2, a3, b0, b1, b2, b3⟩ := box44' (k7.trans (((Later.rfl' _).alloc _).trans hb8))
      have L8 := Lib.hid (l7.trans hb8).drew
      have HX6' := Lib.hid (HX6.out.later (((Later.rfl' _).alloc _).trans (hb7.trans (((Later.rfl' _).alloc _).trans hb8))))
      have HX7' := Lib.hid (HX7.out.later (((Later.rfl' _).alloc _).trans hb8))
      clear l7 k7 l5 k5 K6 L6 HX6 HX7 l1 hb1 z7
      go_wp2_with fail
      go_region_held3 (fun w' => w'.cell? ⟨w.heap.size, 0, none⟩ = some (.int .i64 y0) ∧ w'.cell? ⟨w.heap.size, 1, none⟩ = some (.int .i64 y1) ∧ w'.cell? ⟨w.heap.size, 2, none⟩ = some (.string y2) ∧ w'.cell? ⟨w.heap.size, 3, none⟩ = some (.slice y3 y4 y5) ∧ w'.cell? ⟨w.heap.size + 1, 0, none⟩ = some (.int .i64 z0) ∧ w'.cell? ⟨w.heap.size + 1, 1, none⟩ = some (.int .i64 z1) ∧ w'.cell? ⟨w.heap.size + 1, 2, none⟩ = some (.string z2) ∧ w'.cell? ⟨w.heap.size + 1, 3, none⟩ = some (.slice z3 z4 z5) ∧ w'.cell? ⟨w6.heap.size, 0, none⟩ = some (.int .i64 q0) ∧ w'.cell? ⟨w6.heap.size, 1, none⟩ = some (.int .i64 q1) ∧ w'.cell? ⟨w6.heap.size, 2, none⟩ = some (.string q2) ∧ w'.cell? ⟨w6.heap.size, 3, none⟩ = some (.slice q3 q4 q5) ∧ w'.cell? ⟨w7.heap.size, 0, none⟩ = some (.int .i64 r0) ∧ w'.cell? ⟨w7.heap.size, 1, none⟩ = some (.int .i64 r1) ∧ w'.cell? ⟨w7.heap.size, 2, none⟩ = some (.string r2) ∧ w'.cell? ⟨w7.heap.size, 3, none⟩ = some (.slice r3 r4 r5))
        (first | exact ⟨a0, a1, a2, a3, b0, b1, b2, b3, c0, c1, c2, c3, d0, d1, d2, d3⟩ | exact ⟨kept_cell hb9 a0, kept_cell hb9 a1, kept_cell hb9 a2, kept_cell hb9 a3, kept_cell hb9 b0, kept_cell hb9 b1, kept_cell hb9 b2, kept_cell hb9 b3, kept_cell hb9 c0, kept_cell hb9 c1, kept_cell hb9 c2, kept_cell hb9 c3, kept_cell hb9 d0, kept_cell hb9 d1, kept_cell hb9 d2, kept_cell hb9 d3⟩ | exact ⟨kept_cell hb10 (kept_cell hb9 a0), kept_cell hb10 (kept_cell hb9 a1), kept_cell hb10 (kept_cell hb9 a2), kept_cell hb10 (kept_cell hb9 a3), kept_cell hb10 (kept_cell hb9 b0), kept_cell hb10 (kept_cell hb9 b1), kept_cell hb10 (kept_cell hb9 b2), kept_cell hb10 (kept_cell hb9 b3), kept_cell hb10 (kept_cell hb9 c0), kept_cell hb10 (kept_cell hb9 c1), kept_cell hb10 (kept_cell hb9 c2), kept_cell hb10 (kept_cell hb9 c3), kept_cell hb10 (kept_cell hb9 d0), kept_cell hb10 (kept_cell hb9 d1), kept_cell hb10 (kept_cell hb9 d2), kept_cell hb10 (kept_cell hb9 d3)⟩)
        (first | (go_at_call 12; (with_reducible refine (HTO.out _ L8.out).mono ?_); rintro r w9 ⟨⟨p0, p1, p2, p3, p4, p5, rfl, hx9⟩, hb9⟩; have HX9 := Lib.hid hx9; clear hx9) | (go_at_call 14; refine (eqExpr_self (HX6'.out.later ((Later.rfl' _).drew.trans hb9)) HX9.out).mono ?_; rintro r w10 ⟨rfl, hb10⟩))
      have k10 : Later w8 w10 := (Later.rfl' _).drew.trans (hb9.trans hb10)
      replace a0 := kept_cell k10 a0
      replace a1 := kept_cell k10 a1
      replace a2 := kept_cell k10 a2
      replace a3 := kept_cell k10 a3
      replace b0 := kept_cell k10 b0
      replace b1 := kept_cell k10 b1
      replace b2 := kept_cell k10 b2
      replace b3 := kept_cell k10 b3
      replace c0 := kept_cell k10 c0
      replace c1 := kept_cell k10 c1
      replace c2 := kept_cell k10 c2
      replace c3 := kept_cell k10 c3
      replace d0 := kept_cell k10 d0
      replace d1 := kept_cell k10 d1
      replace d2 := kept_cell k10 d2
      replace d3 := kept_cell k10 d3
      have L10 := Lib.hid (L8.out.trans (hb9.trans hb10)).drew
      have K10 := Lib.hid k10; clear k10
      go_wp2_with fail
      go_region_held3 (fun w' => w'.cell? ⟨w.heap.size, 0, none⟩ = some (.int .i64 y0) ∧ w'.cell? ⟨w.heap.size, 1, none⟩ = some (.int .i64 y1) ∧ w'.cell? ⟨w.heap.size, 2, none⟩ = some (.string y2) ∧ w'.cell? ⟨w.heap.size, 3, none⟩ = some (.slice y3 y4 y5) ∧ w'.cell? ⟨w.heap.size + 1, 0, none⟩ = some (.int .i64 z0) ∧ w'.cell? ⟨w.heap.size + 1, 1, none⟩ = some (.int .i64 z1) ∧ w'.cell? ⟨w.heap.size + 1, 2, none⟩ = some (.string z2) ∧ w'.cell? ⟨w.heap.size + 1, 3, none⟩ = some (.slice z3 z4 z5) ∧ w'.cell? ⟨w6.heap.size, 0, none⟩ = some (.int .i64 q0) ∧ w'.cell? ⟨w6.heap.size, 1, none⟩ = some (.int .i64 q1) ∧ w'.cell? ⟨w6.heap.size, 2, none⟩ = some (.string q2) ∧ w'.cell? ⟨w6.heap.size, 3, none⟩ = some (.slice q3 q4 q5) ∧ w'.cell? ⟨w7.heap.size, 0, none⟩ = some (.int .i64 r0) ∧ w'.cell? ⟨w7.heap.size, 1, none⟩ = some (.int .i64 r1) ∧ w'.cell? ⟨w7.heap.size, 2, none⟩ = some (.string r2) ∧ w'.cell? ⟨w7.heap.size, 3, none⟩ = some (.slice r3 r4 r5))
        (first | exact ⟨a0, a1, a2, a3, b0, b1, b2, b3, c0, c1, c2, c3, d0, d1, d2, d3⟩ | exact ⟨kept_cell hb11 a0, kept_cell hb11 a1, kept_cell hb11 a2, kept_cell hb11 a3, kept_cell hb11 b0, kept_cell hb11 b1, kept_cell hb11 b2, kept_cell hb11 b3, kept_cell hb11 c0, kept_cell hb11 c1, kept_cell hb11 c2, kept_cell hb11 c3, kept_cell hb11 d0, kept_cell hb11 d1, kept_cell hb11 d2, kept_cell hb11 d3⟩ | exact ⟨kept_cell hb12 (kept_cell hb11 a0), kept_cell hb12 (kept_cell hb11 a1), kept_cell hb12 (kept_cell hb11 a2), kept_cell hb12 (kept_cell hb11 a3), kept_cell hb12 (kept_cell hb11 b0), kept_cell hb12 (kept_cell hb11 b1), kept_cell hb12 (kept_cell hb11 b2), kept_cell hb12 (kept_cell hb11 b3), kept_cell hb12 (kept_cell hb11 c0), kept_cell hb12 (kept_cell hb11 c1), kept_cell hb12 (kept_cell hb11 c2), kept_cell hb12 (kept_cell hb11 c3), kept_cell hb12 (kept_cell hb11 d0), kept_cell hb12 (kept_cell hb11 d1), kept_cell hb12 (kept_cell hb11 d2), kept_cell hb12 (kept_cell hb11 d3)⟩)
        (first | (go_at_call 12; (with_reducible refine (HTO'.out _ L10.out).mono ?_); rintro r w11 ⟨⟨t0, t1, t2, t3, t4, t5, rfl, hx11⟩, hb11⟩; have HX11 := Lib.hid hx11; clear hx11) | (go_at_call 14; refine (eqExpr_self (HX7'.out.later (K10.out.drew.trans hb11)) HX11.out).mono ?_; rintro r w12 ⟨rfl, hb12⟩))
      go_wp2_with fail
      go_ret
      exact ⟨rfl, L10.out.trans (hb11.trans hb12)⟩
    · have hsz' : szR (1048576 - e.cost) e'.cost = -1 := szR_big (by omega)
      rw [hsz'] at CSZ2
      have HSZ := Lib.hid CSZ
      have HSZ' := Lib.hid CSZ2
      clear CSZ CSZ' CSZ2 CTO CTO' hsz hsz' hc hc'
      go_enter Try.func5, Try.ntmps5
      go_wp2_with fail
      refine (HSZ.out _ (((Later.rfl' _).alloc _).alloc _)).mono ?_; rintro r w1 ⟨rfl, hb1⟩
      obtain ⟨a0, a1, a2, a3, b0, b1, b2, b3⟩ := box44' hb1
      go_wp2_with fail
      have l1 := (((Later.rfl' w).alloc _).alloc _).trans hb1
      refine (HSZ'.out _ l1).mono ?_; rintro r w2 ⟨rfl, hb2⟩
      go_wp2_with fail
      go_ret
      exact ⟨rfl, l1.trans hb2⟩
  · have hsz : szR 1048576 e.cost = -1 := szR_big (by omega)
    rw [hsz] at CSZ
    have HSZ := Lib.hid CSZ
    clear CSZ CSZ' CTO CTO' hsz hc
    go_enter Try.func5, Try.ntmps5
    go_wp2_with fail
    refine (HSZ.out _ (((Later.rfl' _).alloc _).alloc _)).mono ?_; rintro r w1 ⟨rfl, hb1⟩
    go_wp2_with fail
    go_ret
    exact ⟨rfl, (((Later.rfl' w).alloc _).alloc _).trans hb1⟩
end Go.Proofs.Ytgcdnmpgfgefoaa
