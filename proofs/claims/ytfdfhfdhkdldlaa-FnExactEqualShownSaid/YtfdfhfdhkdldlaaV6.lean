/-
  The laws FnExactEqualValue, FnExactEqualShown: their walks.
-/
import Derived.Test.YtfdfhfdhkdldlaaV4
import Derived.Test.YtfdfhfdhkdldlaaV5
namespace Go.Proofs.Ytfdfhfdhkdldlaa
open Go.ChangeShapes Go.WideShapes Go.ChangeAt Go.RowKit
set_option linter.unusedVariables false
set_option linter.unusedSimpArgs false


set_option maxHeartbeats 4000000 in
theorem walk_FnExactEqualValue (v : Value) (d : Vl) (v' : Value) (d' : Vl) (w : World) (h : ValAt w v d) (h' : ValAt w v' d') : Calls Try.prog 14 #[v, v'] w fun r w' => r = .returned (.bool true) ∧ Later w w' := by
  obtain ⟨cs, rfl, h⟩ := h
  obtain ⟨cs', rfl, h'⟩ := h'
  have CSZ := fun W (hW : Later w W) => szValue d 1048576 (by omega) (by omega) W anyB cs (h.later hW)
  have CSZ' := fun left (h0 : 0 ≤ left) (h1 : left ≤ 1048576) W (hW : Later w W) => szValue d' left h0 h1 W anyB cs' (h'.later hW)
  have CTO := fun (hc : d.cost ≤ 1048576) W (hW : Later w W) => toValue d hc W anyB cs (h.later hW)
  have CTO' := fun (hc : d'.cost ≤ 1048576) W (hW : Later w W) => toValue d' hc W anyB cs' (h'.later hW)
  have CA := specEqualValue d d'
  have CB := implEqualValue d d'
  obtain ⟨q, hq⟩ : ∃ q, q = Vl.same true d d' := ⟨_, rfl⟩
  rw [← hq] at CA CB
  obtain ⟨y0, y1, y2, y3, yA1, yn1, yc1, yA2, yn2, yc2, yA3, yn3, yc3, rfl⟩ := h.seven
  obtain ⟨z0, z1, z2, z3, zA1, zn1, zc1, zA2, zn2, zc2, zA3, zn3, zc3, rfl⟩ := h'.seven
  have HA := Lib.hid CA
  have HB := Lib.hid CB
  have HEQ := Lib.hid (eqValue d)
  have HEQ' := Lib.hid (eqValue d')
  clear CA CB hq h h'
  by_cases hc : d.cost ≤ 1048576
  · have hsz : szR 1048576 d.cost = 1048576 - d.cost := szR_small (by omega)
    have hsz0 : (0 : Int) ≤ 1048576 - (d.cost : Int) := by omega
    rw [hsz] at CSZ
    have CSZ2 := CSZ' (1048576 - d.cost) hsz0 (by omega)
    by_cases hc' : d.cost + d'.cost ≤ 1048576
    · have hsz' : szR (1048576 - d.cost) d'.cost = 1048576 - d.cost - d'.cost := szR_small (by omega)
      have hsz0' : (0 : Int) ≤ 1048576 - (d.cost : Int) - (d'.cost : Int) := by omega
      rw [hsz'] at CSZ2
      have HSZ := Lib.hid CSZ
      have HSZ' := Lib.hid CSZ2
      have HTO := Lib.hid (CTO hc)
      have HTO' := Lib.hid (CTO' (by omega))
      clear CSZ CSZ' CSZ2 CTO CTO' hsz hsz' hc hc'
      go_enter Try.func14, Try.ntmps14
      go_wp2_with fail
      refine (HSZ.out _ (((Later.rfl' _).alloc _).alloc _)).mono ?_; rintro r w1 ⟨rfl, hb⟩
      obtain ⟨P, Q, hs, L0⟩ := box2 hb
      have BA := Lib.hid (P)
      have BB := Lib.hid (Q)
      have L := Lib.hid (L0)
      clear P Q hs L0 hb
      have BB_z := BB.out.lt
      have BB_0 := BB.out.cell (j := 0) rfl
      have BB_1 := BB.out.cell (j := 1) rfl
      have BB_2 := BB.out.cell (j := 2) rfl
      have BB_3 := BB.out.cell (j := 3) rfl
      have BB_4 := BB.out.cell (j := 4) rfl
      have BB_5 := BB.out.cell (j := 5) rfl
      have BB_6 := BB.out.cell (j := 6) rfl
      go_wp2_with fail
      refine (HSZ'.out _ L.out).mono ?_; rintro r w2 ⟨rfl, hb⟩
      clear BB_z BB_0 BB_1 BB_2 BB_3 BB_4 BB_5 BB_6
      have T := Lib.hid ((Later.rfl' _).trans hb); clear hb
      replace BA := Lib.hid (BA.out.later T.out)
      replace BB := Lib.hid (BB.out.later T.out)
      replace L := Lib.hid (L.out.trans T.out)
      clear T
      have LD := Lib.hid L.out.drew
      have BA_z := BA.out.lt
      have BA_0 := BA.out.cell (j := 0) rfl
      have BA_1 := BA.out.cell (j := 1) rfl
      have BA_2 := BA.out.cell (j := 2) rfl
      have BA_3 := BA.out.cell (j := 3) rfl
      have BA_4 := BA.out.cell (j := 4) rfl
      have BA_5 := BA.out.cell (j := 5) rfl
      have BA_6 := BA.out.cell (j := 6) rfl
      have BB_z := BB.out.lt
      have BB_0 := BB.out.cell (j := 0) rfl
      have BB_1 := BB.out.cell (j := 1) rfl
      have BB_2 := BB.out.cell (j := 2) rfl
      have BB_3 := BB.out.cell (j := 3) rfl
      have BB_4 := BB.out.cell (j := 4) rfl
      have BB_5 := BB.out.cell (j := 5) rfl
      have BB_6 := BB.out.cell (j := 6) rfl
      go_wp2_with fail
      go_region_held3 (fun w' => w'.cell? ⟨w.heap.size, 0, none⟩ = some (.int .i64 y0) ∧ w'.cell? ⟨w.heap.size, 1, none⟩ = some (.int .i64 y1) ∧ w'.cell? ⟨w.heap.size, 2, none⟩ = some (.int .i64 y2) ∧ w'.cell? ⟨w.heap.size, 3, none⟩ = some (.string y3) ∧ w'.cell? ⟨w.heap.size, 4, none⟩ = some (.slice yA1 yn1 yc1) ∧ w'.cell? ⟨w.heap.size, 5, none⟩ = some (.slice yA2 yn2 yc2) ∧ w'.cell? ⟨w.heap.size, 6, none⟩ = some (.slice yA3 yn3 yc3) ∧ w'.cell? ⟨w.heap.size + 1, 0, none⟩ = some (.int .i64 z0) ∧ w'.cell? ⟨w.heap.size + 1, 1, none⟩ = some (.int .i64 z1) ∧ w'.cell? ⟨w.heap.size + 1, 2, none⟩ = some (.int .i64 z2) ∧ w'.cell? ⟨w.heap.size + 1, 3, none⟩ = some (.string z3) ∧ w'.cell? ⟨w.heap.size + 1, 4, none⟩ = some (.slice zA1 zn1 zc1) ∧ w'.cell? ⟨w.heap.size + 1, 5, none⟩ = some (.slice zA2 zn2 zc2) ∧ w'.cell? ⟨w.heap.size + 1, 6, none⟩ = some (.slice zA3 zn3 zc3))
        (first | exact ⟨BA_0, BA_1, BA_2, BA_3, BA_4, BA_5, BA_6, BB_0, BB_1, BB_2, BB_3, BB_4, BB_5, BB_6⟩ | exact ⟨kept_cell hb3 BA_0, kept_cell hb3 BA_1, kept_cell hb3 BA_2, kept_cell hb3 BA_3, kept_cell hb3 BA_4, kept_cell hb3 BA_5, kept_cell hb3 BA_6, kept_cell hb3 BB_0, kept_cell hb3 BB_1, kept_cell hb3 BB_2, kept_cell hb3 BB_3, kept_cell hb3 BB_4, kept_cell hb3 BB_5, kept_cell hb3 BB_6⟩ | exact ⟨kept_cell hb4 (kept_cell hb3 BA_0), kept_cell hb4 (kept_cell hb3 BA_1), kept_cell hb4 (kept_cell hb3 BA_2), kept_cell hb4 (kept_cell hb3 BA_3), kept_cell hb4 (kept_cell hb3 BA_4), kept_cell hb4 (kept_cell hb3 BA_5), kept_cell hb4 (kept_cell hb3 BA_6), kept_cell hb4 (kept_cell hb3 BB_0), kept_cell hb4 (kept_cell hb3 BB_1), kept_cell hb4 (kept_cell hb3 BB_2), kept_cell hb4 (kept_cell hb3 BB_3), kept_cell hb4 (kept_cell hb3 BB_4), kept_cell hb4 (kept_cell hb3 BB_5), kept_cell hb4 (kept_cell hb3 BB_6)⟩ | exact ⟨kept_cell hb5 (kept_cell hb4 (kept_cell hb3 BA_0)), kept_cell hb5 (kept_cell hb4 (kept_cell hb3 BA_1)), kept_cell hb5 (kept_cell hb4 (kept_cell hb3 BA_2)), kept_cell hb5 (kept_cell hb4 (kept_cell hb3 BA_3)), kept_cell hb5 (kept_cell hb4 (kept_cell hb3 BA_4)), kept_cell hb5 (kept_cell hb4 (kept_cell hb3 BA_5)), kept_cell hb5 (kept_cell hb4 (kept_cell hb3 BA_6)), kept_cell hb5 (kept_cell hb4 (kept_cell hb3 BB_0)), kept_cell hb5 (kept_cell hb4 (kept_cell hb3 BB_1)), kept_cell hb5 (kept_cell hb4 (kept_cell hb3 BB_2)), kept_cell hb5 (kept_cell hb4 (kept_cell hb3 BB_3)), kept_cell hb5 (kept_cell hb4 (kept_cell hb3 BB_4)), kept_cell hb5 (kept_cell hb4 (kept_cell hb3 BB_5)), kept_cell hb5 (kept_cell hb4 (kept_cell hb3 BB_6))⟩)
        (first | (go_at_call 17; (with_reducible refine (HTO.out _ LD.out).mono ?_); rintro r w3 ⟨⟨p0, p1, p2, p3, pA1, pn1, pc1, pA2, pn2, pc2, pA3, pn3, pc3, rfl, hx3⟩, hb3⟩; have HX3 := Lib.hid hx3.ats; clear hx3) | (go_at_call 17; (with_reducible refine (HTO'.out _ (LD.out.trans hb3)).mono ?_); rintro r w4 ⟨⟨s0, s1, s2, s3, sA1, sn1, sc1, sA2, sn2, sc2, sA3, sn3, sc3, rfl, hx4⟩, hb4⟩; have HX4 := Lib.hid hx4.ats; clear hx4) | (go_at_call 42; refine (HA.out _ _ _ _ _ (HX3.out.later hb4) HX4.out).mono ?_; rintro r w5 ⟨rfl, hb5⟩))
      clear BA_z BA_0 BA_1 BA_2 BA_3 BA_4 BA_5 BA_6 BB_z BB_0 BB_1 BB_2 BB_3 BB_4 BB_5 BB_6
      have T := Lib.hid ((Later.rfl' _).drew.trans (hb3.trans (hb4.trans (hb5)))); clear hb3 hb4 hb5
      replace BA := Lib.hid (BA.out.later T.out)
      replace BB := Lib.hid (BB.out.later T.out)
      replace L := Lib.hid (L.out.trans T.out)
      clear T
      clear LD HX3 HX4
      have BA_z := BA.out.lt
      have BA_0 := BA.out.cell (j := 0) rfl
      have BA_1 := BA.out.cell (j := 1) rfl
      have BA_2 := BA.out.cell (j := 2) rfl
      have BA_3 := BA.out.cell (j := 3) rfl
      have BA_4 := BA.out.cell (j := 4) rfl
      have BA_5 := BA.out.cell (j := 5) rfl
      have BA_6 := BA.out.cell (j := 6) rfl
      go_wp2_with fail
      refine (HTO.out _ L.out).mono ?_; rintro r w6 ⟨⟨q0, q1, q2, q3, qA1, qn1, qc1, qA2, qn2, qc2, qA3, qn3, qc3, rfl, hx6⟩, hb⟩
      clear BA_z BA_0 BA_1 BA_2 BA_3 BA_4 BA_5 BA_6
      have T := Lib.hid ((Later.rfl' _).trans hb); clear hb
      replace BA := Lib.hid (BA.out.later T.out)
      replace BB := Lib.hid (BB.out.later T.out)
      replace L := Lib.hid (L.out.trans T.out)
      clear T
      have X0 := Lib.hid (hx6.ats)
      clear hx6
      have BB_z := BB.out.lt
      have BB_0 := BB.out.cell (j := 0) rfl
      have BB_1 := BB.out.cell (j := 1) rfl
      have BB_2 := BB.out.cell (j := 2) rfl
      have BB_3 := BB.out.cell (j := 3) rfl
      have BB_4 := BB.out.cell (j := 4) rfl
      have BB_5 := BB.out.cell (j := 5) rfl
      have BB_6 := BB.out.cell (j := 6) rfl
      go_wp2_with fail
      refine (HTO'.out _ (L.out.alloc _)).mono ?_; rintro r w7 ⟨⟨r0, r1, r2, r3, rA1, rn1, rc1, rA2, rn2, rc2, rA3, rn3, rc3, rfl, hx7⟩, hb⟩
      clear BB_z BB_0 BB_1 BB_2 BB_3 BB_4 BB_5 BB_6
      have T := Lib.hid (((Later.rfl' _).alloc _).trans hb)
      replace BA := Lib.hid (BA.out.later T.out)
      replace BB := Lib.hid (BB.out.later T.out)
      replace L := Lib.hid (L.out.trans T.out)
      replace X0 := Lib.hid (X0.out.later T.out)
      have BC := Lib.hid ((box_alloc w6 _ _).later hb)
      have X1 := Lib.hid (hx7.ats)
      clear hx7 T hb
      have BC_z := BC.out.lt
      have BC_0 := BC.out.cell (j := 0) rfl
      have BC_1 := BC.out.cell (j := 1) rfl
      have BC_2 := BC.out.cell (j := 2) rfl
      have BC_3 := BC.out.cell (j := 3) rfl
      have BC_4 := BC.out.cell (j := 4) rfl
      have BC_5 := BC.out.cell (j := 5) rfl
      have BC_6 := BC.out.cell (j := 6) rfl
      go_wp2_with fail
      refine (HB.out _ _ _ _ _ (X0.out.later ((Later.rfl' _).alloc _)) (X1.out.later ((Later.rfl' _).alloc _))).mono ?_; rintro r w8 ⟨rfl, hb⟩
      clear BC_z BC_0 BC_1 BC_2 BC_3 BC_4 BC_5 BC_6
      have T := Lib.hid (((Later.rfl' _).alloc _).trans hb)
      replace BA := Lib.hid (BA.out.later T.out)
      replace BB := Lib.hid (BB.out.later T.out)
      replace L := Lib.hid (L.out.trans T.out)
      replace X0 := Lib.hid (X0.out.later T.out)
      replace BC := Lib.hid (BC.out.later T.out)
      replace X1 := Lib.hid (X1.out.later T.out)
      have BD := Lib.hid ((box_alloc w7 _ _).later hb)
      clear T hb
      have LD := Lib.hid L.out.drew
      have BA_z := BA.out.lt
      have BA_0 := BA.out.cell (j := 0) rfl
      have BA_1 := BA.out.cell (j := 1) rfl
      have BA_2 := BA.out.cell (j := 2) rfl
      have BA_3 := BA.out.cell (j := 3) rfl
      have BA_4 := BA.out.cell (j := 4) rfl
      have BA_5 := BA.out.cell (j := 5) rfl
      have BA_6 := BA.out.cell (j := 6) rfl
      have BC_z := BC.out.lt
      have BC_0 := BC.out.cell (j := 0) rfl
      have BC_1 := BC.out.cell (j := 1) rfl
      have BC_2 := BC.out.cell (j := 2) rfl
      have BC_3 := BC.out.cell (j := 3) rfl
      have BC_4 := BC.out.cell (j := 4) rfl
      have BC_5 := BC.out.cell (j := 5) rfl
      have BC_6 := BC.out.cell (j := 6) rfl
      go_wp2_with fail
      go_region_held3 (fun w' => w'.cell? ⟨w.heap.size, 0, none⟩ = some (.int .i64 y0) ∧ w'.cell? ⟨w.heap.size, 1, none⟩ = some (.int .i64 y1) ∧ w'.cell? ⟨w.heap.size, 2, none⟩ = some (.int .i64 y2) ∧ w'.cell? ⟨w.heap.size, 3, none⟩ = some (.string y3) ∧ w'.cell? ⟨w.heap.size, 4, none⟩ = some (.slice yA1 yn1 yc1) ∧ w'.cell? ⟨w.heap.size, 5, none⟩ = some (.slice yA2 yn2 yc2) ∧ w'.cell? ⟨w.heap.size, 6, none⟩ = some (.slice yA3 yn3 yc3) ∧ w'.cell? ⟨w6.heap.size, 0, none⟩ = some (.int .i64 q0) ∧ w'.cell? ⟨w6.heap.size, 1, none⟩ = some (.int .i64 q1) ∧ w'.cell? ⟨w6.heap.size, 2, none⟩ = some (.int .i64 q2) ∧ w'.cell? ⟨w6.heap.size, 3, none⟩ = some (.string q3) ∧ w'.cell? ⟨w6.heap.size, 4, none⟩ = some (.slice qA1 qn1 qc1) ∧ w'.cell? ⟨w6.heap.size, 5, none⟩ = some (.slice qA2 qn2 qc2) ∧ w'.cell? ⟨w6.heap.size, 6, none⟩ = some (.slice qA3 qn3 qc3))
        (first | exact ⟨BA_0, BA_1, BA_2, BA_3, BA_4, BA_5, BA_6, BC_0, BC_1, BC_2, BC_3, BC_4, BC_5, BC_6⟩ | exact ⟨kept_cell hb9 BA_0, kept_cell hb9 BA_1, kept_cell hb9 BA_2, kept_cell hb9 BA_3, kept_cell hb9 BA_4, kept_cell hb9 BA_5, kept_cell hb9 BA_6, kept_cell hb9 BC_0, kept_cell hb9 BC_1, kept_cell hb9 BC_2, kept_cell hb9 BC_3, kept_cell hb9 BC_4, kept_cell hb9 BC_5, kept_cell hb9 BC_6⟩ | exact ⟨kept_cell hb10 (kept_cell hb9 BA_0), kept_cell hb10 (kept_cell hb9 BA_1), kept_cell hb10 (kept_cell hb9 BA_2), kept_cell hb10 (kept_cell hb9 BA_3), kept_cell hb10 (kept_cell hb9 BA_4), kept_cell hb10 (kept_cell hb9 BA_5), kept_cell hb10 (kept_cell hb9 BA_6), kept_cell hb10 (kept_cell hb9 BC_0), kept_cell hb10 (kept_cell hb9 BC_1), kept_cell hb10 (kept_cell hb9 BC_2), kept_cell hb10 (kept_cell hb9 BC_3), kept_cell hb10 (kept_cell hb9 BC_4), kept_cell hb10 (kept_cell hb9 BC_5), kept_cell hb10 (kept_cell hb9 BC_6)⟩)
        (first | (go_at_call 17; (with_reducible refine (HTO.out _ LD.out).mono ?_); rintro r w9 ⟨⟨g0, g1, g2, g3, gA1, gn1, gc1, gA2, gn2, gc2, gA3, gn3, gc3, rfl, hx9⟩, hb9⟩; have HX9 := Lib.hid hx9.ats; clear hx9) | (go_at_call 19; refine (HEQ.out _ _ _ _ _ (X0.out.later ((Later.rfl' _).drew.trans hb9)) HX9.out).mono ?_; rintro r w10 ⟨rfl, hb10⟩))
      clear BA_z BA_0 BA_1 BA_2 BA_3 BA_4 BA_5 BA_6 BC_z BC_0 BC_1 BC_2 BC_3 BC_4 BC_5 BC_6
      have T := Lib.hid ((Later.rfl' _).drew.trans (hb9.trans (hb10))); clear hb9 hb10
      replace BA := Lib.hid (BA.out.later T.out)
      replace BB := Lib.hid (BB.out.later T.out)
      replace L := Lib.hid (L.out.trans T.out)
      replace X0 := Lib.hid (X0.out.later T.out)
      replace BC := Lib.hid (BC.out.later T.out)
      replace X1 := Lib.hid (X1.out.later T.out)
      replace BD := Lib.hid (BD.out.later T.out)
      clear T
      clear LD HX9
      have LD := Lib.hid L.out.drew
      have BB_z := BB.out.lt
      have BB_0 := BB.out.cell (j := 0) rfl
      have BB_1 := BB.out.cell (j := 1) rfl
      have BB_2 := BB.out.cell (j := 2) rfl
      have BB_3 := BB.out.cell (j := 3) rfl
      have BB_4 := BB.out.cell (j := 4) rfl
      have BB_5 := BB.out.cell (j := 5) rfl
      have BB_6 := BB.out.cell (j := 6) rfl
      have BD_z := BD.out.lt
      have BD_0 := BD.out.cell (j := 0) rfl
      have BD_1 := BD.out.cell (j := 1) rfl
      have BD_2 := BD.out.cell (j := 2) rfl
      have BD_3 := BD.out.cell (j := 3) rfl
      have BD_4 := BD.out.cell (j := 4) rfl
      have BD_5 := BD.out.cell (j := 5) rfl
      have BD_6 := BD.out.cell (j := 6) rfl
      go_wp2_with fail
      go_region_held3 (fun w' => w'.cell? ⟨w.heap.size + 1, 0, none⟩ = some (.int .i64 z0) ∧ w'.cell? ⟨w.heap.size + 1, 1, none⟩ = some (.int .i64 z1) ∧ w'.cell? ⟨w.heap.size + 1, 2, none⟩ = some (.int .i64 z2) ∧ w'.cell? ⟨w.heap.size + 1, 3, none⟩ = some (.string z3) ∧ w'.cell? ⟨w.heap.size + 1, 4, none⟩ = some (.slice zA1 zn1 zc1) ∧ w'.cell? ⟨w.heap.size + 1, 5, none⟩ = some (.slice zA2 zn2 zc2) ∧ w'.cell? ⟨w.heap.size + 1, 6, none⟩ = some (.slice zA3 zn3 zc3) ∧ w'.cell? ⟨w7.heap.size, 0, none⟩ = some (.int .i64 r0) ∧ w'.cell? ⟨w7.heap.size, 1, none⟩ = some (.int .i64 r1) ∧ w'.cell? ⟨w7.heap.size, 2, none⟩ = some (.int .i64 r2) ∧ w'.cell? ⟨w7.heap.size, 3, none⟩ = some (.string r3) ∧ w'.cell? ⟨w7.heap.size, 4, none⟩ = some (.slice rA1 rn1 rc1) ∧ w'.cell? ⟨w7.heap.size, 5, none⟩ = some (.slice rA2 rn2 rc2) ∧ w'.cell? ⟨w7.heap.size, 6, none⟩ = some (.slice rA3 rn3 rc3))
        (first | exact ⟨BB_0, BB_1, BB_2, BB_3, BB_4, BB_5, BB_6, BD_0, BD_1, BD_2, BD_3, BD_4, BD_5, BD_6⟩ | exact ⟨kept_cell hb9 BB_0, kept_cell hb9 BB_1, kept_cell hb9 BB_2, kept_cell hb9 BB_3, kept_cell hb9 BB_4, kept_cell hb9 BB_5, kept_cell hb9 BB_6, kept_cell hb9 BD_0, kept_cell hb9 BD_1, kept_cell hb9 BD_2, kept_cell hb9 BD_3, kept_cell hb9 BD_4, kept_cell hb9 BD_5, kept_cell hb9 BD_6⟩ | exact ⟨kept_cell hb10 (kept_cell hb9 BB_0), kept_cell hb10 (kept_cell hb9 BB_1), kept_cell hb10 (kept_cell hb9 BB_2), kept_cell hb10 (kept_cell hb9 BB_3), kept_cell hb10 (kept_cell hb9 BB_4), kept_cell hb10 (kept_cell hb9 BB_5), kept_cell hb10 (kept_cell hb9 BB_6), kept_cell hb10 (kept_cell hb9 BD_0), kept_cell hb10 (kept_cell hb9 BD_1), kept_cell hb10 (kept_cell hb9 BD_2), kept_cell hb10 (kept_cell hb9 BD_3), kept_cell hb10 (kept_cell hb9 BD_4), kept_cell hb10 (kept_cell hb9 BD_5), kept_cell hb10 (kept_cell hb9 BD_6)⟩)
        (first | (go_at_call 17; (with_reducible refine (HTO'.out _ LD.out).mono ?_); rintro r w11 ⟨⟨h0, h1, h2, h3, hA1, hn1, hc1, hA2, hn2, hc2, hA3, hn3, hc3, rfl, hx9⟩, hb9⟩; have HX9 := Lib.hid hx9.ats; clear hx9) | (go_at_call 19; refine (HEQ'.out _ _ _ _ _ (X1.out.later ((Later.rfl' _).drew.trans hb9)) HX9.out).mono ?_; rintro r w12 ⟨rfl, hb10⟩))
      clear BB_z BB_0 BB_1 BB_2 BB_3 BB_4 BB_5 BB_6 BD_z BD_0 BD_1 BD_2 BD_3 BD_4 BD_5 BD_6
      have T := Lib.hid ((Later.rfl' _).drew.trans (hb9.trans (hb10))); clear hb9 hb10
      replace BA := Lib.hid (BA.out.later T.out)
      replace BB := Lib.hid (BB.out.later T.out)
      replace L := Lib.hid (L.out.trans T.out)
      replace X0 := Lib.hid (X0.out.later T.out)
      replace BC := Lib.hid (BC.out.later T.out)
      replace X1 := Lib.hid (X1.out.later T.out)
      replace BD := Lib.hid (BD.out.later T.out)
      clear T
      go_wp2_with fail
      go_ret
      exact ⟨rfl, L.out⟩
    · have hsz' : szR (1048576 - d.cost) d'.cost = -1 := szR_big (by omega)
      rw [hsz'] at CSZ2
      have HSZ := Lib.hid CSZ
      have HSZ' := Lib.hid CSZ2
      clear CSZ CSZ' CSZ2 CTO CTO' hsz hsz' hc hc'
      go_enter Try.func14, Try.ntmps14
      go_wp2_with fail
      refine (HSZ.out _ (((Later.rfl' _).alloc _).alloc _)).mono ?_; rintro r w1 ⟨rfl, hb1⟩
      obtain ⟨P, Q, hs, L0⟩ := box2 hb1
      have q0 := Q.cell (j := 0) rfl
      have q1 := Q.cell (j := 1) rfl
      have q2 := Q.cell (j := 2) rfl
      have q3 := Q.cell (j := 3) rfl
      have q4 := Q.cell (j := 4) rfl
      have q5 := Q.cell (j := 5) rfl
      have q6 := Q.cell (j := 6) rfl
      go_wp2_with fail
      refine (HSZ'.out _ L0).mono ?_; rintro r w2 ⟨rfl, hb2⟩
      go_wp2_with fail
      go_ret
      exact ⟨rfl, L0.trans hb2⟩
  · have hsz : szR 1048576 d.cost = -1 := szR_big (by omega)
    rw [hsz] at CSZ
    have HSZ := Lib.hid CSZ
    clear CSZ CSZ' CTO CTO' hsz hc
    go_enter Try.func14, Try.ntmps14
    go_wp2_with fail
    refine (HSZ.out _ (((Later.rfl' _).alloc _).alloc _)).mono ?_; rintro r w1 ⟨rfl, hb1⟩
    go_wp2_with fail
    go_ret
    exact ⟨rfl, (((Later.rfl' w).alloc _).alloc _).trans hb1⟩

set_option maxHeartbeats 4000000 in
theorem walk_FnExactEqualShown (v : Value) (d : Vl) (v' : Value) (d' : Vl) (w : World) (h : ValAt w v d) (h' : ValAt w v' d') : Calls Try.prog 13 #[v, v'] w fun r w' => r = .returned (.bool true) ∧ Later w w' := by
  obtain ⟨cs, rfl, h⟩ := h
  obtain ⟨cs', rfl, h'⟩ := h'
  have CSZ := fun W (hW : Later w W) => szValue d 1048576 (by omega) (by omega) W anyB cs (h.later hW)
  have CSZ' := fun left (h0 : 0 ≤ left) (h1 : left ≤ 1048576) W (hW : Later w W) => szValue d' left h0 h1 W anyB cs' (h'.later hW)
  have CTO := fun (hc : d.cost ≤ 1048576) W (hW : Later w W) => toValue d hc W anyB cs (h.later hW)
  have CTO' := fun (hc : d'.cost ≤ 1048576) W (hW : Later w W) => toValue d' hc W anyB cs' (h'.later hW)
  have CA := specEqualShown d d'
  have CB := implEqualShown d d'
  obtain ⟨q, hq⟩ : ∃ q, q = Vl.same false d d' := ⟨_, rfl⟩
  rw [← hq] at CA CB
  obtain ⟨y0, y1, y2, y3, yA1, yn1, yc1, yA2, yn2, yc2, yA3, yn3, yc3, rfl⟩ := h.seven
  obtain ⟨z0, z1, z2, z3, zA1, zn1, zc1, zA2, zn2, zc2, zA3, zn3, zc3, rfl⟩ := h'.seven
  have HA := Lib.hid CA
  have HB := Lib.hid CB
  have HEQ := Lib.hid (eqValue d)
  have HEQ' := Lib.hid (eqValue d')
  clear CA CB hq h h'
  by_cases hc : d.cost ≤ 1048576
  · have hsz : szR 1048576 d.cost = 1048576 - d.cost := szR_small (by omega)
    have hsz0 : (0 : Int) ≤ 1048576 - (d.cost : Int) := by omega
    rw [hsz] at CSZ
    have CSZ2 := CSZ' (1048576 - d.cost) hsz0 (by omega)
    by_cases hc' : d.cost + d'.cost ≤ 1048576
    · have hsz' : szR (1048576 - d.cost) d'.cost = 1048576 - d.cost - d'.cost := szR_small (by omega)
      have hsz0' : (0 : Int) ≤ 1048576 - (d.cost : Int) - (d'.cost : Int) := by omega
      rw [hsz'] at CSZ2
      have HSZ := Lib.hid CSZ
      have HSZ' := Lib.hid CSZ2
      have HTO := Lib.hid (CTO hc)
      have HTO' := Lib.hid (CTO' (by omega))
      clear CSZ CSZ' CSZ2 CTO CTO' hsz hsz' hc hc'
      go_enter Try.func13, Try.ntmps13
      go_wp2_with fail
      refine (HSZ.out _ (((Later.rfl' _).alloc _).alloc _)).mono ?_; rintro r w1 ⟨rfl, hb⟩
      obtain ⟨P, Q, hs, L0⟩ := box2 hb
      have BA := Lib.hid (P)
      have BB := Lib.hid (Q)
      have L := Lib.hid (L0)
      clear P Q hs L0 hb
      have BB_z := BB.out.lt
      have BB_0 := BB.out.cell (j := 0) rfl
      have BB_1 := BB.out.cell (j := 1) rfl
      have BB_2 := BB.out.cell (j := 2) rfl
      have BB_3 := BB.out.cell (j := 3) rfl
      have BB_4 := BB.out.cell (j := 4) rfl
      have BB_5 := BB.out.cell (j := 5) rfl
      have BB_6 := BB.out.cell (j := 6) rfl
      go_wp2_with fail
      refine (HSZ'.out _ L.out).mono ?_; rintro r w2 ⟨rfl, hb⟩
      clear BB_z BB_0 BB_1 BB_2 BB_3 BB_4 BB_5 BB_6
      have T := Lib.hid ((Later.rfl' _).trans hb); clear hb
      replace BA := Lib.hid (BA.out.later T.out)
      replace BB := Lib.hid (BB.out.later T.out)
      replace L := Lib.hid (L.out.trans T.out)
      clear T
      have LD := Lib.hid L.out.drew
      have BA_z := BA.out.lt
      have BA_0 := BA.out.cell (j := 0) rfl
      have BA_1 := BA.out.cell (j := 1) rfl
      have BA_2 := BA.out.cell (j := 2) rfl
      have BA_3 := BA.out.cell (j := 3) rfl
      have BA_4 := BA.out.cell (j := 4) rfl
      have BA_5 := BA.out.cell (j := 5) rfl
      have BA_6 := BA.out.cell (j := 6) rfl
      have BB_z := BB.out.lt
      have BB_0 := BB.out.cell (j := 0) rfl
      have BB_1 := BB.out.cell (j := 1) rfl
      have BB_2 := BB.out.cell (j := 2) rfl
      have BB_3 := BB.out.cell (j := 3) rfl
      have BB_4 := BB.out.cell (j := 4) rfl
      have BB_5 := BB.out.cell (j := 5) rfl
      have BB_6 := BB.out.cell (j := 6) rfl
      go_wp2_with fail
      go_region_held3 (fun w' => w'.cell? ⟨w.heap.size, 0, none⟩ = some (.int .i64 y0) ∧ w'.cell? ⟨w.heap.size, 1, none⟩ = some (.int .i64 y1) ∧ w'.cell? ⟨w.heap.size, 2, none⟩ = some (.int .i64 y2) ∧ w'.cell? ⟨w.heap.size, 3, none⟩ = some (.string y3) ∧ w'.cell? ⟨w.heap.size, 4, none⟩ = some (.slice yA1 yn1 yc1) ∧ w'.cell? ⟨w.heap.size, 5, none⟩ = some (.slice yA2 yn2 yc2) ∧ w'.cell? ⟨w.heap.size, 6, none⟩ = some (.slice yA3 yn3 yc3) ∧ w'.cell? ⟨w.heap.size + 1, 0, none⟩ = some (.int .i64 z0) ∧ w'.cell? ⟨w.heap.size + 1, 1, none⟩ = some (.int .i64 z1) ∧ w'.cell? ⟨w.heap.size + 1, 2, none⟩ = some (.int .i64 z2) ∧ w'.cell? ⟨w.heap.size + 1, 3, none⟩ = some (.string z3) ∧ w'.cell? ⟨w.heap.size + 1, 4, none⟩ = some (.slice zA1 zn1 zc1) ∧ w'.cell? ⟨w.heap.size + 1, 5, none⟩ = some (.slice zA2 zn2 zc2) ∧ w'.cell? ⟨w.heap.size + 1, 6, none⟩ = some (.slice zA3 zn3 zc3))
        (first | exact ⟨BA_0, BA_1, BA_2, BA_3, BA_4, BA_5, BA_6, BB_0, BB_1, BB_2, BB_3, BB_4, BB_5, BB_6⟩ | exact ⟨kept_cell hb3 BA_0, kept_cell hb3 BA_1, kept_cell hb3 BA_2, kept_cell hb3 BA_3, kept_cell hb3 BA_4, kept_cell hb3 BA_5, kept_cell hb3 BA_6, kept_cell hb3 BB_0, kept_cell hb3 BB_1, kept_cell hb3 BB_2, kept_cell hb3 BB_3, kept_cell hb3 BB_4, kept_cell hb3 BB_5, kept_cell hb3 BB_6⟩ | exact ⟨kept_cell hb4 (kept_cell hb3 BA_0), kept_cell hb4 (kept_cell hb3 BA_1), kept_cell hb4 (kept_cell hb3 BA_2), kept_cell hb4 (kept_cell hb3 BA_3), kept_cell hb4 (kept_cell hb3 BA_4), kept_cell hb4 (kept_cell hb3 BA_5), kept_cell hb4 (kept_cell hb3 BA_6), kept_cell hb4 (kept_cell hb3 BB_0), kept_cell hb4 (kept_cell hb3 BB_1), kept_cell hb4 (kept_cell hb3 BB_2), kept_cell hb4 (kept_cell hb3 BB_3), kept_cell hb4 (kept_cell hb3 BB_4), kept_cell hb4 (kept_cell hb3 BB_5), kept_cell hb4 (kept_cell hb3 BB_6)⟩ | exact ⟨kept_cell hb5 (kept_cell hb4 (kept_cell hb3 BA_0)), kept_cell hb5 (kept_cell hb4 (kept_cell hb3 BA_1)), kept_cell hb5 (kept_cell hb4 (kept_cell hb3 BA_2)), kept_cell hb5 (kept_cell hb4 (kept_cell hb3 BA_3)), kept_cell hb5 (kept_cell hb4 (kept_cell hb3 BA_4)), kept_cell hb5 (kept_cell hb4 (kept_cell hb3 BA_5)), kept_cell hb5 (kept_cell hb4 (kept_cell hb3 BA_6)), kept_cell hb5 (kept_cell hb4 (kept_cell hb3 BB_0)), kept_cell hb5 (kept_cell hb4 (kept_cell hb3 BB_1)), kept_cell hb5 (kept_cell hb4 (kept_cell hb3 BB_2)), kept_cell hb5 (kept_cell hb4 (kept_cell hb3 BB_3)), kept_cell hb5 (kept_cell hb4 (kept_cell hb3 BB_4)), kept_cell hb5 (kept_cell hb4 (kept_cell hb3 BB_5)), kept_cell hb5 (kept_cell hb4 (kept_cell hb3 BB_6))⟩)
        (first | (go_at_call 17; (with_reducible refine (HTO.out _ LD.out).mono ?_); rintro r w3 ⟨⟨p0, p1, p2, p3, pA1, pn1, pc1, pA2, pn2, pc2, pA3, pn3, pc3, rfl, hx3⟩, hb3⟩; have HX3 := Lib.hid hx3.ats; clear hx3) | (go_at_call 17; (with_reducible refine (HTO'.out _ (LD.out.trans hb3)).mono ?_); rintro r w4 ⟨⟨s0, s1, s2, s3, sA1, sn1, sc1, sA2, sn2, sc2, sA3, sn3, sc3, rfl, hx4⟩, hb4⟩; have HX4 := Lib.hid hx4.ats; clear hx4) | (go_at_call 40; refine (HA.out _ _ _ _ _ (HX3.out.later hb4) HX4.out).mono ?_; rintro r w5 ⟨rfl, hb5⟩))
      clear BA_z BA_0 BA_1 BA_2 BA_3 BA_4 BA_5 BA_6 BB_z BB_0 BB_1 BB_2 BB_3 BB_4 BB_5 BB_6
      have T := Lib.hid ((Later.rfl' _).drew.trans (hb3.trans (hb4.trans (hb5)))); clear hb3 hb4 hb5
      replace BA := Lib.hid (BA.out.later T.out)
      replace BB := Lib.hid (BB.out.later T.out)
      replace L := Lib.hid (L.out.trans T.out)
      clear T
      clear LD HX3 HX4
      have BA_z := BA.out.lt
      have BA_0 := BA.out.cell (j := 0) rfl
      have BA_1 := BA.out.cell (j := 1) rfl
      have BA_2 := BA.out.cell (j := 2) rfl
      have BA_3 := BA.out.cell (j := 3) rfl
      have BA_4 := BA.out.cell (j := 4) rfl
      have BA_5 := BA.out.cell (j := 5) rfl
      have BA_6 := BA.out.cell (j := 6) rfl
      go_wp2_with fail
      refine (HTO.out _ L.out).mono ?_; rintro r w6 ⟨⟨q0, q1, q2, q3, qA1, qn1, qc1, qA2, qn2, qc2, qA3, qn3, qc3, rfl, hx6⟩, hb⟩
      clear BA_z BA_0 BA_1 BA_2 BA_3 BA_4 BA_5 BA_6
      have T := Lib.hid ((Later.rfl' _).trans hb); clear hb
      replace BA := Lib.hid (BA.out.later T.out)
      replace BB := Lib.hid (BB.out.later T.out)
      replace L := Lib.hid (L.out.trans T.out)
      clear T
      have X0 := Lib.hid (hx6.ats)
      clear hx6
      have BB_z := BB.out.lt
      have BB_0 := BB.out.cell (j := 0) rfl
      have BB_1 := BB.out.cell (j := 1) rfl
      have BB_2 := BB.out.cell (j := 2) rfl
      have BB_3 := BB.out.cell (j := 3) rfl
      have BB_4 := BB.out.cell (j := 4) rfl
      have BB_5 := BB.out.cell (j := 5) rfl
      have BB_6 := BB.out.cell (j := 6) rfl
      go_wp2_with fail
      refine (HTO'.out _ (L.out.alloc _)).mono ?_; rintro r w7 ⟨⟨r0, r1, r2, r3, rA1, rn1, rc1, rA2, rn2, rc2, rA3, rn3, rc3, rfl, hx7⟩, hb⟩
      clear BB_z BB_0 BB_1 BB_2 BB_3 BB_4 BB_5 BB_6
      have T := Lib.hid (((Later.rfl' _).alloc _).trans hb)
      replace BA := Lib.hid (BA.out.later T.out)
      replace BB := Lib.hid (BB.out.later T.out)
      replace L := Lib.hid (L.out.trans T.out)
      replace X0 := Lib.hid (X0.out.later T.out)
      have BC := Lib.hid ((box_alloc w6 _ _).later hb)
      have X1 := Lib.hid (hx7.ats)
      clear hx7 T hb
      have BC_z := BC.out.lt
      have BC_0 := BC.out.cell (j := 0) rfl
      have BC_1 := BC.out.cell (j := 1) rfl
      have BC_2 := BC.out.cell (j := 2) rfl
      have BC_3 := BC.out.cell (j := 3) rfl
      have BC_4 := BC.out.cell (j := 4) rfl
      have BC_5 := BC.out.cell (j := 5) rfl
      have BC_6 := BC.out.cell (j := 6) rfl
      go_wp2_with fail
      refine (HB.out _ _ _ _ _ (X0.out.later ((Later.rfl' _).alloc _)) (X1.out.later ((Later.rfl' _).alloc _))).mono ?_; rintro r w8 ⟨rfl, hb⟩
      clear BC_z BC_0 BC_1 BC_2 BC_3 BC_4 BC_5 BC_6
      have T := Lib.hid (((Later.rfl' _).alloc _).trans hb)
      replace BA := Lib.hid (BA.out.later T.out)
      replace BB := Lib.hid (BB.out.later T.out)
      replace L := Lib.hid (L.out.trans T.out)
      replace X0 := Lib.hid (X0.out.later T.out)
      replace BC := Lib.hid (BC.out.later T.out)
      replace X1 := Lib.hid (X1.out.later T.out)
      have BD := Lib.hid ((box_alloc w7 _ _).later hb)
      clear T hb
      have LD := Lib.hid L.out.drew
      have BA_z := BA.out.lt
      have BA_0 := BA.out.cell (j := 0) rfl
      have BA_1 := BA.out.cell (j := 1) rfl
      have BA_2 := BA.out.cell (j := 2) rfl
      have BA_3 := BA.out.cell (j := 3) rfl
      have BA_4 := BA.out.cell (j := 4) rfl
      have BA_5 := BA.out.cell (j := 5) rfl
      have BA_6 := BA.out.cell (j := 6) rfl
      have BC_z := BC.out.lt
      have BC_0 := BC.out.cell (j := 0) rfl
      have BC_1 := BC.out.cell (j := 1) rfl
      have BC_2 := BC.out.cell (j := 2) rfl
      have BC_3 := BC.out.cell (j := 3) rfl
      have BC_4 := BC.out.cell (j := 4) rfl
      have BC_5 := BC.out.cell (j := 5) rfl
      have BC_6 := BC.out.cell (j := 6) rfl
      go_wp2_with fail
      go_region_held3 (fun w' => w'.cell? ⟨w.heap.size, 0, none⟩ = some (.int .i64 y0) ∧ w'.cell? ⟨w.heap.size, 1, none⟩ = some (.int .i64 y1) ∧ w'.cell? ⟨w.heap.size, 2, none⟩ = some (.int .i64 y2) ∧ w'.cell? ⟨w.heap.size, 3, none⟩ = some (.string y3) ∧ w'.cell? ⟨w.heap.size, 4, none⟩ = some (.slice yA1 yn1 yc1) ∧ w'.cell? ⟨w.heap.size, 5, none⟩ = some (.slice yA2 yn2 yc2) ∧ w'.cell? ⟨w.heap.size, 6, none⟩ = some (.slice yA3 yn3 yc3) ∧ w'.cell? ⟨w6.heap.size, 0, none⟩ = some (.int .i64 q0) ∧ w'.cell? ⟨w6.heap.size, 1, none⟩ = some (.int .i64 q1) ∧ w'.cell? ⟨w6.heap.size, 2, none⟩ = some (.int .i64 q2) ∧ w'.cell? ⟨w6.heap.size, 3, none⟩ = some (.string q3) ∧ w'.cell? ⟨w6.heap.size, 4, none⟩ = some (.slice qA1 qn1 qc1) ∧ w'.cell? ⟨w6.heap.size, 5, none⟩ = some (.slice qA2 qn2 qc2) ∧ w'.cell? ⟨w6.heap.size, 6, none⟩ = some (.slice qA3 qn3 qc3))
        (first | exact ⟨BA_0, BA_1, BA_2, BA_3, BA_4, BA_5, BA_6, BC_0, BC_1, BC_2, BC_3, BC_4, BC_5, BC_6⟩ | exact ⟨kept_cell hb9 BA_0, kept_cell hb9 BA_1, kept_cell hb9 BA_2, kept_cell hb9 BA_3, kept_cell hb9 BA_4, kept_cell hb9 BA_5, kept_cell hb9 BA_6, kept_cell hb9 BC_0, kept_cell hb9 BC_1, kept_cell hb9 BC_2, kept_cell hb9 BC_3, kept_cell hb9 BC_4, kept_cell hb9 BC_5, kept_cell hb9 BC_6⟩ | exact ⟨kept_cell hb10 (kept_cell hb9 BA_0), kept_cell hb10 (kept_cell hb9 BA_1), kept_cell hb10 (kept_cell hb9 BA_2), kept_cell hb10 (kept_cell hb9 BA_3), kept_cell hb10 (kept_cell hb9 BA_4), kept_cell hb10 (kept_cell hb9 BA_5), kept_cell hb10 (kept_cell hb9 BA_6), kept_cell hb10 (kept_cell hb9 BC_0), kept_cell hb10 (kept_cell hb9 BC_1), kept_cell hb10 (kept_cell hb9 BC_2), kept_cell hb10 (kept_cell hb9 BC_3), kept_cell hb10 (kept_cell hb9 BC_4), kept_cell hb10 (kept_cell hb9 BC_5), kept_cell hb10 (kept_cell hb9 BC_6)⟩)
        (first | (go_at_call 17; (with_reducible refine (HTO.out _ LD.out).mono ?_); rintro r w9 ⟨⟨g0, g1, g2, g3, gA1, gn1, gc1, gA2, gn2, gc2, gA3, gn3, gc3, rfl, hx9⟩, hb9⟩; have HX9 := Lib.hid hx9.ats; clear hx9) | (go_at_call 19; refine (HEQ.out _ _ _ _ _ (X0.out.later ((Later.rfl' _).drew.trans hb9)) HX9.out).mono ?_; rintro r w10 ⟨rfl, hb10⟩))
      clear BA_z BA_0 BA_1 BA_2 BA_3 BA_4 BA_5 BA_6 BC_z BC_0 BC_1 BC_2 BC_3 BC_4 BC_5 BC_6
      have T := Lib.hid ((Later.rfl' _).drew.trans (hb9.trans (hb10))); clear hb9 hb10
      replace BA := Lib.hid (BA.out.later T.out)
      replace BB := Lib.hid (BB.out.later T.out)
      replace L := Lib.hid (L.out.trans T.out)
      replace X0 := Lib.hid (X0.out.later T.out)
      replace BC := Lib.hid (BC.out.later T.out)
      replace X1 := Lib.hid (X1.out.later T.out)
      replace BD := Lib.hid (BD.out.later T.out)
      clear T
      clear LD HX9
      have LD := Lib.hid L.out.drew
      have BB_z := BB.out.lt
      have BB_0 := BB.out.cell (j := 0) rfl
      have BB_1 := BB.out.cell (j := 1) rfl
      have BB_2 := BB.out.cell (j := 2) rfl
      have BB_3 := BB.out.cell (j := 3) rfl
      have BB_4 := BB.out.cell (j := 4) rfl
      have BB_5 := BB.out.cell (j := 5) rfl
      have BB_6 := BB.out.cell (j := 6) rfl
      have BD_z := BD.out.lt
      have BD_0 := BD.out.cell (j := 0) rfl
      have BD_1 := BD.out.cell (j := 1) rfl
      have BD_2 := BD.out.cell (j := 2) rfl
      have BD_3 := BD.out.cell (j := 3) rfl
      have BD_4 := BD.out.cell (j := 4) rfl
      have BD_5 := BD.out.cell (j := 5) rfl
      have BD_6 := BD.out.cell (j := 6) rfl
      go_wp2_with fail
      go_region_held3 (fun w' => w'.cell? ⟨w.heap.size + 1, 0, none⟩ = some (.int .i64 z0) ∧ w'.cell? ⟨w.heap.size + 1, 1, none⟩ = some (.int .i64 z1) ∧ w'.cell? ⟨w.heap.size + 1, 2, none⟩ = some (.int .i64 z2) ∧ w'.cell? ⟨w.heap.size + 1, 3, none⟩ = some (.string z3) ∧ w'.cell? ⟨w.heap.size + 1, 4, none⟩ = some (.slice zA1 zn1 zc1) ∧ w'.cell? ⟨w.heap.size + 1, 5, none⟩ = some (.slice zA2 zn2 zc2) ∧ w'.cell? ⟨w.heap.size + 1, 6, none⟩ = some (.slice zA3 zn3 zc3) ∧ w'.cell? ⟨w7.heap.size, 0, none⟩ = some (.int .i64 r0) ∧ w'.cell? ⟨w7.heap.size, 1, none⟩ = some (.int .i64 r1) ∧ w'.cell? ⟨w7.heap.size, 2, none⟩ = some (.int .i64 r2) ∧ w'.cell? ⟨w7.heap.size, 3, none⟩ = some (.string r3) ∧ w'.cell? ⟨w7.heap.size, 4, none⟩ = some (.slice rA1 rn1 rc1) ∧ w'.cell? ⟨w7.heap.size, 5, none⟩ = some (.slice rA2 rn2 rc2) ∧ w'.cell? ⟨w7.heap.size, 6, none⟩ = some (.slice rA3 rn3 rc3))
        (first | exact ⟨BB_0, BB_1, BB_2, BB_3, BB_4, BB_5, BB_6, BD_0, BD_1, BD_2, BD_3, BD_4, BD_5, BD_6⟩ | exact ⟨kept_cell hb9 BB_0, kept_cell hb9 BB_1, kept_cell hb9 BB_2, kept_cell hb9 BB_3, kept_cell hb9 BB_4, kept_cell hb9 BB_5, kept_cell hb9 BB_6, kept_cell hb9 BD_0, kept_cell hb9 BD_1, kept_cell hb9 BD_2, kept_cell hb9 BD_3, kept_cell hb9 BD_4, kept_cell hb9 BD_5, kept_cell hb9 BD_6⟩ | exact ⟨kept_cell hb10 (kept_cell hb9 BB_0), kept_cell hb10 (kept_cell hb9 BB_1), kept_cell hb10 (kept_cell hb9 BB_2), kept_cell hb10 (kept_cell hb9 BB_3), kept_cell hb10 (kept_cell hb9 BB_4), kept_cell hb10 (kept_cell hb9 BB_5), kept_cell hb10 (kept_cell hb9 BB_6), kept_cell hb10 (kept_cell hb9 BD_0), kept_cell hb10 (kept_cell hb9 BD_1), kept_cell hb10 (kept_cell hb9 BD_2), kept_cell hb10 (kept_cell hb9 BD_3), kept_cell hb10 (kept_cell hb9 BD_4), kept_cell hb10 (kept_cell hb9 BD_5), kept_cell hb10 (kept_cell hb9 BD_6)⟩)
        (first | (go_at_call 17; (with_reducible refine (HTO'.out _ LD.out).mono ?_); rintro r w11 ⟨⟨h0, h1, h2, h3, hA1, hn1, hc1, hA2, hn2, hc2, hA3, hn3, hc3, rfl, hx9⟩, hb9⟩; have HX9 := Lib.hid hx9.ats; clear hx9) | (go_at_call 19; refine (HEQ'.out _ _ _ _ _ (X1.out.later ((Later.rfl' _).drew.trans hb9)) HX9.out).mono ?_; rintro r w12 ⟨rfl, hb10⟩))
      clear BB_z BB_0 BB_1 BB_2 BB_3 BB_4 BB_5 BB_6 BD_z BD_0 BD_1 BD_2 BD_3 BD_4 BD_5 BD_6
      have T := Lib.hid ((Later.rfl' _).drew.trans (hb9.trans (hb10))); clear hb9 hb10
      replace BA := Lib.hid (BA.out.later T.out)
      replace BB := Lib.hid (BB.out.later T.out)
      replace L := Lib.hid (L.out.trans T.out)
      replace X0 := Lib.hid (X0.out.later T.out)
      replace BC := Lib.hid (BC.out.later T.out)
      replace X1 := Lib.hid (X1.out.later T.out)
      replace BD := Lib.hid (BD.out.later T.out)
      clear T
      go_wp2_with fail
      go_ret
      exact ⟨rfl, L.out⟩
    · have hsz' : szR (1048576 - d.cost) d'.cost = -1 := szR_big (by omega)
      rw [hsz'] at CSZ2
      have HSZ := Lib.hid CSZ
      have HSZ' := Lib.hid CSZ2
      clear CSZ CSZ' CSZ2 CTO CTO' hsz hsz' hc hc'
      go_enter Try.func13, Try.ntmps13
      go_wp2_with fail
      refine (HSZ.out _ (((Later.rfl' _).alloc _).alloc _)).mono ?_; rintro r w1 ⟨rfl, hb1⟩
      obtain ⟨P, Q, hs, L0⟩ := box2 hb1
      have q0 := Q.cell (j := 0) rfl
      have q1 := Q.cell (j := 1) rfl
      have q2 := Q.cell (j := 2) rfl
      have q3 := Q.cell (j := 3) rfl
      have q4 := Q.cell (j := 4) rfl
      have q5 := Q.cell (j := 5) rfl
      have q6 := Q.cell (j := 6) rfl
      go_wp2_with fail
      refine (HSZ'.out _ L0).mono ?_; rintro r w2 ⟨rfl, hb2⟩
      go_wp2_with fail
      go_ret
      exact ⟨rfl, L0.trans hb2⟩
  · have hsz : szR 1048576 d.cost = -1 := szR_big (by omega)
    rw [hsz] at CSZ
    have HSZ := Lib.hid CSZ
    clear CSZ CSZ' CTO CTO' hsz hc
    go_enter Try.func13, Try.ntmps13
    go_wp2_with fail
    refine (HSZ.out _ (((Later.rfl' _).alloc _).alloc _)).mono ?_; rintro r w1 ⟨rfl, hb1⟩
    go_wp2_with fail
    go_ret
    exact ⟨rfl, (((Later.rfl' w).alloc _).alloc _).trans hb1⟩
end Go.Proofs.Ytfdfhfdhkdldlaa
