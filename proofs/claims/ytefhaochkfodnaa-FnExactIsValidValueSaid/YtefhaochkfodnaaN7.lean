/-
  The law FnExactIsValidValue: its walk.
-/
import Derived.Test.YtefhaochkfodnaaV5
import Derived.Test.YtefhaochkfodnaaN6
import Derived.Deep.RegionHeld3
namespace Go.Proofs.Ytefhaochkfodnaa
open Go.ChangeShapes Go.WideShapes Go.ChangeAt Go.RowKit
set_option linter.unusedVariables false
set_option linter.unusedSimpArgs false


set_option maxHeartbeats 1000000 in
theorem walk_FnExactIsValidValue (v : Value) (d : Vl) (w : World) (h : ValAt w v d) : Calls Try.prog 5 #[v] w fun r w' => r = .returned (.bool true) ∧ Later w w' := by
  skip
  obtain ⟨cs, rfl, h⟩ := h
  have CSZ := fun W (hW : Later w W) => szValue d 1048576 (by omega) (by omega) W anyB cs (h.later hW)
  have CTO := fun (hc : d.cost ≤ 1048576) W (hW : Later w W) => toValue d hc W anyB cs (h.later hW)
  obtain ⟨y0, y1, y2, y3, yA1, yn1, yc1, yA2, yn2, yc2, yA3, yn3, yc3, rfl⟩ := h.seven
  by_cases hc : d.cost ≤ 1048576
  · have hsz : szR 1048576 d.cost = 1048576 - d.cost := szR_small (by omega)
    have hsz0 : (0 : Int) ≤ 1048576 - (d.cost : Int) := by omega
    rw [hsz] at CSZ
    have HSZ := Lib.hid CSZ
    have HTO := Lib.hid (CTO hc)
    have CA := specValid d (by omega)
    have CB := implValid d (by omega)
    obtain ⟨q, hq⟩ : ∃ q, q = d.valid := ⟨_, rfl⟩
    rw [← hq] at CA CB
    have HA := Lib.hid CA
    have HB := Lib.hid CB
    have HEQ := Lib.hid (eqValue d)
    clear CSZ CTO hsz h hc CA CB hq
    go_enter Try.func5, Try.ntmps5
    go_wp2_with fail
    refine (HSZ.out _ ((Later.rfl' _).alloc _)).mono ?_; rintro r w1 ⟨rfl, hb1⟩
    have B1 := Lib.hid ((box_alloc w _ _).later hb1)
    have L1 := Lib.hid (((Later.rfl' w).alloc _).trans hb1)
    clear hb1
    have a0 := B1.out.cell (j := 0) rfl
    have a1 := B1.out.cell (j := 1) rfl
    have a2 := B1.out.cell (j := 2) rfl
    have a3 := B1.out.cell (j := 3) rfl
    have a4 := B1.out.cell (j := 4) rfl
    have a5 := B1.out.cell (j := 5) rfl
    have a6 := B1.out.cell (j := 6) rfl
    go_wp2_with fail
    refine (HTO.out _ L1.out).mono ?_; rintro r w2 ⟨⟨p0, p1, p2, p3, pA1, pn1, pc1, pA2, pn2, pc2, pA3, pn3, pc3, rfl, hx2⟩, hb2⟩
    go_wp2_with fail
    refine (HA.out _ _ _ hx2.ats).mono ?_; rintro r w3 ⟨rfl, hb3⟩
    have B3 := Lib.hid (B1.out.later (hb2.trans hb3))
    have L3 := Lib.hid (L1.out.trans (hb2.trans hb3))
    clear hb2 hb3 hx2 a0 a1 a2 a3 a4 a5 a6 B1 L1
    have a0 := B3.out.cell (j := 0) rfl
    have a1 := B3.out.cell (j := 1) rfl
    have a2 := B3.out.cell (j := 2) rfl
    have a3 := B3.out.cell (j := 3) rfl
    have a4 := B3.out.cell (j := 4) rfl
    have a5 := B3.out.cell (j := 5) rfl
    have a6 := B3.out.cell (j := 6) rfl
    go_wp2_with fail
    refine (HTO.out _ L3.out).mono ?_; rintro r w4 ⟨⟨q0, q1, q2, q3, qA1, qn1, qc1, qA2, qn2, qc2, qA3, qn3, qc3, rfl, hx4⟩, hb4⟩
    have HX4 := Lib.hid hx4.ats
    have B4 := Lib.hid (B3.out.later hb4)
    have L4 := Lib.hid (L3.out.trans hb4)
    clear hx4 a0 a1 a2 a3 a4 a5 a6 B3 L3 hb4
    go_wp2_with fail
    refine (HB.out _ _ _ (HX4.out.later ((Later.rfl' _).alloc _))).mono ?_; rintro r w5 ⟨rfl, hb5⟩
    have B5 := Lib.hid (B4.out.later (((Later.rfl' _).alloc _).trans hb5))
    have C5 := Lib.hid ((box_alloc w4 _ _).later hb5)
    have HX5 := Lib.hid (HX4.out.later (((Later.rfl' _).alloc _).trans hb5.drew))
    have L5 : Hid (Later w w5.drew) := (L4.out.trans (((Later.rfl' _).alloc _).trans hb5)).drew
    clear hb5 B4 L4 HX4
    have a0 := B5.out.cell (j := 0) rfl
    have a1 := B5.out.cell (j := 1) rfl
    have a2 := B5.out.cell (j := 2) rfl
    have a3 := B5.out.cell (j := 3) rfl
    have a4 := B5.out.cell (j := 4) rfl
    have a5 := B5.out.cell (j := 5) rfl
    have a6 := B5.out.cell (j := 6) rfl
    have b0 := C5.out.cell (j := 0) rfl
    have b1 := C5.out.cell (j := 1) rfl
    have b2 := C5.out.cell (j := 2) rfl
    have b3 := C5.out.cell (j := 3) rfl
    have b4 := C5.out.cell (j := 4) rfl
    have b5 := C5.out.cell (j := 5) rfl
    have b6 := C5.out.cell (j := 6) rfl
    go_wp2_with fail
    go_region_held3 (fun w' => w'.cell? ⟨w.heap.size, 0, none⟩ = some (.int .i64 y0) ∧ w'.cell? ⟨w.heap.size, 1, none⟩ = some (.int .i64 y1) ∧ w'.cell? ⟨w.heap.size, 2, none⟩ = some (.int .i64 y2) ∧ w'.cell? ⟨w.heap.size, 3, none⟩ = some (.string y3) ∧ w'.cell? ⟨w.heap.size, 4, none⟩ = some (.slice yA1 yn1 yc1) ∧ w'.cell? ⟨w.heap.size, 5, none⟩ = some (.slice yA2 yn2 yc2) ∧ w'.cell? ⟨w.heap.size, 6, none⟩ = some (.slice yA3 yn3 yc3) ∧ w'.cell? ⟨w4.heap.size, 0, none⟩ = some (.int .i64 q0) ∧ w'.cell? ⟨w4.heap.size, 1, none⟩ = some (.int .i64 q1) ∧ w'.cell? ⟨w4.heap.size, 2, none⟩ = some (.int .i64 q2) ∧ w'.cell? ⟨w4.heap.size, 3, none⟩ = some (.string q3) ∧ w'.cell? ⟨w4.heap.size, 4, none⟩ = some (.slice qA1 qn1 qc1) ∧ w'.cell? ⟨w4.heap.size, 5, none⟩ = some (.slice qA2 qn2 qc2) ∧ w'.cell? ⟨w4.heap.size, 6, none⟩ = some (.slice qA3 qn3 qc3))
      (first | exact ⟨a0, a1, a2, a3, a4, a5, a6, b0, b1, b2, b3, b4, b5, b6⟩ | exact ⟨kept_cell hb6 a0, kept_cell hb6 a1, kept_cell hb6 a2, kept_cell hb6 a3, kept_cell hb6 a4, kept_cell hb6 a5, kept_cell hb6 a6, kept_cell hb6 b0, kept_cell hb6 b1, kept_cell hb6 b2, kept_cell hb6 b3, kept_cell hb6 b4, kept_cell hb6 b5, kept_cell hb6 b6⟩ | exact ⟨kept_cell hb7 (kept_cell hb6 a0), kept_cell hb7 (kept_cell hb6 a1), kept_cell hb7 (kept_cell hb6 a2), kept_cell hb7 (kept_cell hb6 a3), kept_cell hb7 (kept_cell hb6 a4), kept_cell hb7 (kept_cell hb6 a5), kept_cell hb7 (kept_cell hb6 a6), kept_cell hb7 (kept_cell hb6 b0), kept_cell hb7 (kept_cell hb6 b1), kept_cell hb7 (kept_cell hb6 b2), kept_cell hb7 (kept_cell hb6 b3), kept_cell hb7 (kept_cell hb6 b4), kept_cell hb7 (kept_cell hb6 b5), kept_cell hb7 (kept_cell hb6 b6)⟩)
      (first | (go_at_call 12; refine (HTO.out _ L5.out).mono ?_; rintro r w6 ⟨⟨r0, r1, r2, r3, rA1, rn1, rc1, rA2, rn2, rc2, rA3, rn3, rc3, rfl, hx6⟩, hb6⟩; have HX6 := Lib.hid hx6.ats; clear hx6) | (go_at_call 16; refine (HEQ.out _ _ _ _ _ (HX5.out.later hb6) HX6.out).mono ?_; rintro r w7 ⟨rfl, hb7⟩))
    go_wp2_with fail
    go_ret
    exact ⟨rfl, L5.out.trans (hb6.trans hb7)⟩
  · have hsz : szR 1048576 d.cost = -1 := szR_big (by omega)
    rw [hsz] at CSZ
    have HSZ := Lib.hid CSZ
    clear CSZ CTO hsz h hc
    go_enter Try.func5, Try.ntmps5
    go_wp2_with fail
    refine (HSZ.out _ ((Later.rfl' _).alloc _)).mono ?_; rintro r w1 ⟨rfl, hb1⟩
    go_wp2_with fail
    go_ret
    exact ⟨rfl, ((Later.rfl' w).alloc _).trans hb1⟩
end Go.Proofs.Ytefhaochkfodnaa
