/-
  The law FnExactOriginsOf: its walk.
-/
import Derived.Test.YtjjmbldgemnhbaaYEx
import Derived.Test.YtjjmbldgemnhbaaYOO1
import Derived.Deep.RegionHeld3
namespace Go.Proofs.Ytjjmbldgemnhbaa
open Go.ChangeShapes Go.WideShapes Go.ChangeAt Go.RowKit
set_option linter.unusedVariables false
set_option linter.unusedSimpArgs false

theorem originsL_cost (d : Vl) : (originsL d.rows).length ≤ d.cost := by
  obtain ⟨k, n, s, t, l, cl, r, rfl⟩ := Vl.shape d
  rw [Vl.cost_mk]
  have := originsL_all r
  simp only [Vl.rows]
  omega
set_option maxHeartbeats 4000000 in
theorem walk_FnExactOriginsOf (v0 : Value) (d : Vl) (w : World) (h0 : ValAt w v0 d) : Calls Try.prog 4 #[v0] w fun r w' => r = .returned (.bool true) ∧ Later w w' := by
  obtain ⟨cs0, rfl, h0⟩ := h0
  have CSZ0 := fun left (a : 0 ≤ left) (b : left ≤ 1048576) W (hW : Later w W) => szValue d left a b W anyB cs0 (h0.later hW)
  have CTO0 := fun (hc : d.cost ≤ 1048576) W (hW : Later w W) => toValue d hc W anyB cs0 (h0.later hW)
  obtain ⟨y0, y1, y2, y3, yA1, yn1, yc1, yA2, yn2, yc2, yA3, yn3, yc3, rfl⟩ := h0.seven
  obtain ⟨C0, hC0⟩ : ∃ C : Nat, C = d.cost := ⟨_, rfl⟩
  rw [← hC0] at CTO0
  simp only [← hC0] at CSZ0
  by_cases hc0 : C0 ≤ 1048576
  rotate_left
  · clear CTO0
    have HSZ0 := Lib.hid (by have H := CSZ0 1048576 (by omega) (by omega); rw [szR_big (by omega)] at H; exact H)
    clear CSZ0 hC0
    go_enter Try.func4, Try.ntmps4
    have L := Lib.hid (Later.rfl' w)
    go_wp2_with fail
    refine (HSZ0.out _ (L.out.alloc _)).mono ?_; rintro r w1 ⟨rfl, hb⟩
    have hs_w1 := hb.size
    simp only [World.size_alloc] at hs_w1
    have T := Lib.hid (((Later.rfl' _).alloc _).trans hb)
    replace L := Lib.hid (L.out.trans T.out)
    have BA0 := Lib.hid ((box_alloc w _ _).later hb)
    clear T hb
    go_wp2_with fail
    go_ret
    exact ⟨rfl, L.out⟩
  have HSZ0 := Lib.hid (by have H := CSZ0 1048576 (by omega) (by omega); rw [szR_small (by omega)] at H; exact H)
  have hn0 : (0 : Int) ≤ (1048576 - (C0 : Int)) := by omega
  have HTO0 := Lib.hid (CTO0 (by omega))
  have CS := fun W S cs h => specOriginsOf d (by omega) W S cs h
  have CI := fun W S cs h => implOriginsOf d (by omega) W S cs h
  have hmk0 : d.topN ≤ 8388608 := by
    subst_vars
    have := topN_le d; omega
  have CMX0 := fun W S cs h => markValue d 1 1 (by first | rfl | simp) W S cs (by omega) h
  obtain ⟨N0, hN0⟩ : ∃ N, N = 1 + d.topN := ⟨_, rfl⟩
  simp only [← hN0] at CMX0
  have hNb0 : N0 ≤ 33554432 := by omega
  have hNp0 : (0 : Int) ≤ (N0 : Int) := by omega
  have HMX0 := Lib.hid CMX0
  have hbd : 1 + Dt.cnts ((originsL d.rows).flatMap encO) ≤ 1099511627776 := by
    have := originsL_cost d; rw [cntO]; omega
  obtain ⟨K, hK⟩ : ∃ K, K = originsL d.rows := ⟨_, rfl⟩
  rw [← hK] at hbd
  simp only [← hK] at CS CI
  have CM := fun W S v (h : Own W S (.sl 2 K.length (K.flatMap encO)) v) => marksQ_at (markOriginS K) 1 (show (1 : Int) = ((1 : Nat) : Int) by simp) hbd h
  have CH := fun W S v h => heldOriginS K 1 1 W S v (by simp) (flat_len encO_len K) hbd h
  obtain ⟨N, hN⟩ : ∃ N, N = 1 + Dt.cnts (K.flatMap encO) := ⟨_, rfl⟩
  simp only [← hN] at CM CH
  have hNp : (0 : Int) ≤ (N : Int) := by omega
  have HS := Lib.hid CS; have HI := Lib.hid CI; have HM := Lib.hid CM; have HH := Lib.hid CH
  have HEQ := Lib.hid (eqOriginS K)
  have HEQ0 := Lib.hid (eqValue d)
  clear CS CI CM CH hbd hK hN h0 CSZ0 hC0 hc0 CTO0 CMX0 hN0 hmk0
  go_enter Try.func4, Try.ntmps4
  have L := Lib.hid (Later.rfl' w)
  go_wp2_with fail
  refine (HSZ0.out _ (L.out.alloc _)).mono ?_; rintro r w1 ⟨rfl, hb⟩
  have hs_w1 := hb.size
  simp only [World.size_alloc] at hs_w1
  have T := Lib.hid (((Later.rfl' _).alloc _).trans hb)
  replace L := Lib.hid (L.out.trans T.out)
  have BA0 := Lib.hid ((box_alloc w _ _).later hb)
  clear T hb
  have BA0_z := BA0.out.lt
  have BA0_0 := BA0.out.cell (j := 0) rfl
  have BA0_1 := BA0.out.cell (j := 1) rfl
  have BA0_2 := BA0.out.cell (j := 2) rfl
  have BA0_3 := BA0.out.cell (j := 3) rfl
  have BA0_4 := BA0.out.cell (j := 4) rfl
  have BA0_5 := BA0.out.cell (j := 5) rfl
  have BA0_6 := BA0.out.cell (j := 6) rfl
  go_wp2_with fail
  refine (HTO0.out _ L.out).mono ?_; rintro r w2 ⟨⟨pa0, pa1, pa2, pa3, paA1, pan1, pac1, paA2, pan2, pac2, paA3, pan3, pac3, rfl, hx⟩, hb⟩
  clear BA0_z BA0_0 BA0_1 BA0_2 BA0_3 BA0_4 BA0_5 BA0_6
  have hs_w2 := hb.size
  have T := Lib.hid ((Later.rfl' _).trans hb)
  replace L := Lib.hid (L.out.trans T.out)
  replace BA0 := Lib.hid (BA0.out.later T.out)
  have AT0 := Lib.hid (hx)
  clear hx
  clear T hb
  go_wp2_with fail
  refine (HS.out _ _ _ AT0.out.ats).mono ?_; rintro r w3 ⟨⟨war, rfl, hx⟩, hb⟩
  have hs_w3 := hb.size
  have T := Lib.hid ((Later.rfl' _).trans hb)
  replace L := Lib.hid (L.out.trans T.out)
  replace BA0 := Lib.hid (BA0.out.later T.out)
  replace AT0 := Lib.hid (AT0.out.later T.out)
  have WA := Lib.hid (hx)
  clear hx
  clear T hb
  clear AT0
  have BA0_z := BA0.out.lt
  have BA0_0 := BA0.out.cell (j := 0) rfl
  have BA0_1 := BA0.out.cell (j := 1) rfl
  have BA0_2 := BA0.out.cell (j := 2) rfl
  have BA0_3 := BA0.out.cell (j := 3) rfl
  have BA0_4 := BA0.out.cell (j := 4) rfl
  have BA0_5 := BA0.out.cell (j := 5) rfl
  have BA0_6 := BA0.out.cell (j := 6) rfl
  go_wp2_with fail
  refine (HTO0.out _ L.out).mono ?_; rintro r w4 ⟨⟨x00, x01, x02, x03, x0A1, x0n1, x0c1, x0A2, x0n2, x0c2, x0A3, x0n3, x0c3, rfl, hx⟩, hb⟩
  clear BA0_z BA0_0 BA0_1 BA0_2 BA0_3 BA0_4 BA0_5 BA0_6
  have hs_w4 := hb.size
  have T := Lib.hid ((Later.rfl' _).trans hb)
  replace L := Lib.hid (L.out.trans T.out)
  replace BA0 := Lib.hid (BA0.out.later T.out)
  replace WA := Lib.hid (WA.out.later T.out)
  have X0 := Lib.hid (hx)
  clear hx
  clear T hb
  go_wp2_with fail
  refine (HI.out _ _ _ (X0.out.ats.later ((Later.rfl' _).alloc _))).mono ?_; rintro r w5 ⟨⟨gr, rfl, hx⟩, hb⟩
  have hs_w5 := hb.size
  simp only [World.size_alloc] at hs_w5 hx
  have T := Lib.hid (((Later.rfl' _).alloc _).trans hb)
  replace L := Lib.hid (L.out.trans T.out)
  replace BA0 := Lib.hid (BA0.out.later T.out)
  replace WA := Lib.hid (WA.out.later T.out)
  replace X0 := Lib.hid (X0.out.later T.out)
  have BX0 := Lib.hid ((box_alloc w4 _ _).later hb)
  have GA := Lib.hid (hx)
  clear hx
  clear T hb
  go_wp2_with fail
  refine (HEQ.out _ _ _ _ _ GA.out.at_ WA.out.at_).mono ?_; rintro r w6 ⟨rfl, hb⟩
  have hs_w6 := hb.size
  have T := Lib.hid ((Later.rfl' _).trans hb)
  replace L := Lib.hid (L.out.trans T.out)
  replace BA0 := Lib.hid (BA0.out.later T.out)
  replace WA := Lib.hid (WA.out.later T.out)
  replace X0 := Lib.hid (X0.out.later T.out)
  replace BX0 := Lib.hid (BX0.out.later T.out)
  replace GA := Lib.hid (GA.out.later T.out)
  clear T hb
  have LD := Lib.hid L.out.drew
  have BA0_z := BA0.out.lt
  have BA0_0 := BA0.out.cell (j := 0) rfl
  have BA0_1 := BA0.out.cell (j := 1) rfl
  have BA0_2 := BA0.out.cell (j := 2) rfl
  have BA0_3 := BA0.out.cell (j := 3) rfl
  have BA0_4 := BA0.out.cell (j := 4) rfl
  have BA0_5 := BA0.out.cell (j := 5) rfl
  have BA0_6 := BA0.out.cell (j := 6) rfl
  have BX0_z := BX0.out.lt
  have BX0_0 := BX0.out.cell (j := 0) rfl
  have BX0_1 := BX0.out.cell (j := 1) rfl
  have BX0_2 := BX0.out.cell (j := 2) rfl
  have BX0_3 := BX0.out.cell (j := 3) rfl
  have BX0_4 := BX0.out.cell (j := 4) rfl
  have BX0_5 := BX0.out.cell (j := 5) rfl
  have BX0_6 := BX0.out.cell (j := 6) rfl
  go_wp2_with fail
  go_region_held3 (fun w' => w'.cell? ⟨w.heap.size, 0, none⟩ = some (.int .i64 y0) ∧ w'.cell? ⟨w.heap.size, 1, none⟩ = some (.int .i64 y1) ∧ w'.cell? ⟨w.heap.size, 2, none⟩ = some (.int .i64 y2) ∧ w'.cell? ⟨w.heap.size, 3, none⟩ = some (.string y3) ∧ w'.cell? ⟨w.heap.size, 4, none⟩ = some (.slice yA1 yn1 yc1) ∧ w'.cell? ⟨w.heap.size, 5, none⟩ = some (.slice yA2 yn2 yc2) ∧ w'.cell? ⟨w.heap.size, 6, none⟩ = some (.slice yA3 yn3 yc3) ∧ w'.cell? ⟨w4.heap.size, 0, none⟩ = some (.int .i64 x00) ∧ w'.cell? ⟨w4.heap.size, 1, none⟩ = some (.int .i64 x01) ∧ w'.cell? ⟨w4.heap.size, 2, none⟩ = some (.int .i64 x02) ∧ w'.cell? ⟨w4.heap.size, 3, none⟩ = some (.string x03) ∧ w'.cell? ⟨w4.heap.size, 4, none⟩ = some (.slice x0A1 x0n1 x0c1) ∧ w'.cell? ⟨w4.heap.size, 5, none⟩ = some (.slice x0A2 x0n2 x0c2) ∧ w'.cell? ⟨w4.heap.size, 6, none⟩ = some (.slice x0A3 x0n3 x0c3))
    (first | exact ⟨BA0_0, BA0_1, BA0_2, BA0_3, BA0_4, BA0_5, BA0_6, BX0_0, BX0_1, BX0_2, BX0_3, BX0_4, BX0_5, BX0_6⟩ | exact ⟨kept_cell hb0 BA0_0, kept_cell hb0 BA0_1, kept_cell hb0 BA0_2, kept_cell hb0 BA0_3, kept_cell hb0 BA0_4, kept_cell hb0 BA0_5, kept_cell hb0 BA0_6, kept_cell hb0 BX0_0, kept_cell hb0 BX0_1, kept_cell hb0 BX0_2, kept_cell hb0 BX0_3, kept_cell hb0 BX0_4, kept_cell hb0 BX0_5, kept_cell hb0 BX0_6⟩ | exact ⟨kept_cell hb1 (kept_cell hb0 BA0_0), kept_cell hb1 (kept_cell hb0 BA0_1), kept_cell hb1 (kept_cell hb0 BA0_2), kept_cell hb1 (kept_cell hb0 BA0_3), kept_cell hb1 (kept_cell hb0 BA0_4), kept_cell hb1 (kept_cell hb0 BA0_5), kept_cell hb1 (kept_cell hb0 BA0_6), kept_cell hb1 (kept_cell hb0 BX0_0), kept_cell hb1 (kept_cell hb0 BX0_1), kept_cell hb1 (kept_cell hb0 BX0_2), kept_cell hb1 (kept_cell hb0 BX0_3), kept_cell hb1 (kept_cell hb0 BX0_4), kept_cell hb1 (kept_cell hb0 BX0_5), kept_cell hb1 (kept_cell hb0 BX0_6)⟩)
    (first | (go_at_call 14; (with_reducible refine (HTO0.out _ LD.out).mono ?_); rintro r w7 ⟨⟨c00, c01, c02, c03, c0A1, c0n1, c0c1, c0A2, c0n2, c0c2, c0A3, c0n3, c0c3, rfl, hx⟩, hb0⟩; have AC := Lib.hid hx.ats; clear hx) | (go_at_call 16; (refine (HEQ0.out _ _ _ _ _ (X0.out.ats.later ((Later.rfl' _).drew.trans hb0)) AC.out).mono ?_); rintro r w8 ⟨rfl, hb1⟩))
  clear BA0_z BA0_0 BA0_1 BA0_2 BA0_3 BA0_4 BA0_5 BA0_6 BX0_z BX0_0 BX0_1 BX0_2 BX0_3 BX0_4 BX0_5 BX0_6
  have T := Lib.hid (((Later.rfl' w6).drew.trans hb0).trans hb1)
  have hs_w8 := T.out.size
  replace L := Lib.hid (L.out.trans T.out)
  replace BA0 := Lib.hid (BA0.out.later T.out)
  replace WA := Lib.hid (WA.out.later T.out)
  replace X0 := Lib.hid (X0.out.later T.out)
  replace BX0 := Lib.hid (BX0.out.later T.out)
  replace GA := Lib.hid (GA.out.later T.out)
  clear LD
  clear AC T hb0 hb1
  have BX0_z := BX0.out.lt
  have BX0_0 := BX0.out.cell (j := 0) rfl
  have BX0_1 := BX0.out.cell (j := 1) rfl
  have BX0_2 := BX0.out.cell (j := 2) rfl
  have BX0_3 := BX0.out.cell (j := 3) rfl
  have BX0_4 := BX0.out.cell (j := 4) rfl
  have BX0_5 := BX0.out.cell (j := 5) rfl
  have BX0_6 := BX0.out.cell (j := 6) rfl
  go_wp2_with fail
  refine (HMX0.out _ _ _ X0.out).mono ?_; rintro r w9 ⟨rfl, ho, hc⟩
  clear BX0_z BX0_0 BX0_1 BX0_2 BX0_3 BX0_4 BX0_5 BX0_6
  replace L := Lib.hid (Chg.later L.out hc (fun b hb => by omega))
  replace BA0 := Lib.hid (BA0.out.chg hc (by omega))
  replace WA := Lib.hid (WA.out.chg hc (fun b h1 h2 => by omega))
  replace BX0 := Lib.hid (BX0.out.chg hc (by omega))
  replace GA := Lib.hid (GA.out.chg hc (fun b h1 h2 => by omega))
  replace X0 := Lib.hid ho
  have hs_w9 := hc.size
  clear ho hc
  go_wp2_with fail
  refine (HEQ.out _ _ _ _ _ GA.out.at_ WA.out.at_).mono ?_; rintro r w10 ⟨rfl, hb⟩
  have hs_w10 := hb.size
  have T := Lib.hid ((Later.rfl' _).trans hb)
  replace L := Lib.hid (L.out.trans T.out)
  replace BA0 := Lib.hid (BA0.out.later T.out)
  replace WA := Lib.hid (WA.out.later T.out)
  replace X0 := Lib.hid (X0.out.later T.out)
  replace BX0 := Lib.hid (BX0.out.later T.out)
  replace GA := Lib.hid (GA.out.later T.out)
  clear T hb
  clear X0
  go_wp2_with fail
  refine (HM.out _ _ _ GA.out).mono ?_; rintro r w11 ⟨rfl, ho, hc⟩
  replace L := Lib.hid (Chg.later L.out hc (fun b hb => by omega))
  replace BA0 := Lib.hid (BA0.out.chg hc (by omega))
  replace WA := Lib.hid (WA.out.chg hc (fun b h1 h2 => by omega))
  replace BX0 := Lib.hid (BX0.out.chg hc (by omega))
  replace GA := Lib.hid ho
  have hs_w11 := hc.size
  clear ho hc
  go_wp2_with fail
  refine (HH.out _ _ _ GA.out.at_).mono ?_; rintro r w12 ⟨rfl, hb⟩
  have hs_w12 := hb.size
  have T := Lib.hid ((Later.rfl' _).trans hb)
  replace L := Lib.hid (L.out.trans T.out)
  replace BA0 := Lib.hid (BA0.out.later T.out)
  replace WA := Lib.hid (WA.out.later T.out)
  replace BX0 := Lib.hid (BX0.out.later T.out)
  replace GA := Lib.hid (GA.out.later T.out)
  clear T hb
  have BA0_z := BA0.out.lt
  have BA0_0 := BA0.out.cell (j := 0) rfl
  have BA0_1 := BA0.out.cell (j := 1) rfl
  have BA0_2 := BA0.out.cell (j := 2) rfl
  have BA0_3 := BA0.out.cell (j := 3) rfl
  have BA0_4 := BA0.out.cell (j := 4) rfl
  have BA0_5 := BA0.out.cell (j := 5) rfl
  have BA0_6 := BA0.out.cell (j := 6) rfl
  go_wp2_with fail
  refine (HTO0.out _ L.out).mono ?_; rintro r w13 ⟨⟨qa0, qa1, qa2, qa3, qaA1, qan1, qac1, qaA2, qan2, qac2, qaA3, qan3, qac3, rfl, hx⟩, hb⟩
  clear BA0_z BA0_0 BA0_1 BA0_2 BA0_3 BA0_4 BA0_5 BA0_6
  have hs_w13 := hb.size
  have T := Lib.hid ((Later.rfl' _).trans hb)
  replace L := Lib.hid (L.out.trans T.out)
  replace BA0 := Lib.hid (BA0.out.later T.out)
  replace WA := Lib.hid (WA.out.later T.out)
  replace BX0 := Lib.hid (BX0.out.later T.out)
  replace GA := Lib.hid (GA.out.later T.out)
  have AT0 := Lib.hid (hx)
  clear hx
  clear T hb
  go_wp2_with fail
  refine (HI.out _ _ _ AT0.out.ats).mono ?_; rintro r w14 ⟨⟨har, rfl, hx⟩, hb⟩
  have hs_w14 := hb.size
  have T := Lib.hid ((Later.rfl' _).trans hb)
  replace L := Lib.hid (L.out.trans T.out)
  replace BA0 := Lib.hid (BA0.out.later T.out)
  replace WA := Lib.hid (WA.out.later T.out)
  replace BX0 := Lib.hid (BX0.out.later T.out)
  replace GA := Lib.hid (GA.out.later T.out)
  replace AT0 := Lib.hid (AT0.out.later T.out)
  have HA := Lib.hid (hx)
  clear hx
  clear T hb
  clear AT0
  go_wp2_with fail
  refine (HEQ.out _ _ _ _ _ HA.out.at_ WA.out.at_).mono ?_; rintro r w15 ⟨rfl, hb⟩
  have hs_w15 := hb.size
  have T := Lib.hid ((Later.rfl' _).trans hb)
  replace L := Lib.hid (L.out.trans T.out)
  replace BA0 := Lib.hid (BA0.out.later T.out)
  replace WA := Lib.hid (WA.out.later T.out)
  replace BX0 := Lib.hid (BX0.out.later T.out)
  replace GA := Lib.hid (GA.out.later T.out)
  replace HA := Lib.hid (HA.out.later T.out)
  clear T hb
  go_wp2_with fail
  refine (HH.out _ _ _ GA.out.at_).mono ?_; rintro r w16 ⟨rfl, hb⟩
  have hs_w16 := hb.size
  have T := Lib.hid ((Later.rfl' _).trans hb)
  replace L := Lib.hid (L.out.trans T.out)
  replace BA0 := Lib.hid (BA0.out.later T.out)
  replace WA := Lib.hid (WA.out.later T.out)
  replace BX0 := Lib.hid (BX0.out.later T.out)
  replace GA := Lib.hid (GA.out.later T.out)
  replace HA := Lib.hid (HA.out.later T.out)
  clear T hb
  go_wp2_with fail
  go_ret
  exact ⟨rfl, L.out⟩
end Go.Proofs.Ytjjmbldgemnhbaa
