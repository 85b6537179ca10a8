/-
  The law FnExactListValue: its walk.
-/
import Derived.Test.YtghemlokpfipoaaEx
import Derived.Test.YtghemlokpfipoaaCP4
import Derived.Deep.RegionHeld3
namespace Go.Proofs.Ytghemlokpfipoaa
open Go.ChangeShapes Go.WideShapes Go.ChangeAt Go.RowKit
set_option linter.unusedVariables false
set_option linter.unusedSimpArgs false

set_option maxHeartbeats 4000000 in
theorem walk_FnExactListValue (v0 : Value) (d : List Vl) (w : World) (h0 : ValsAt w v0 d) : Calls Try.prog 8 #[v0] w fun r w' => r = .returned (.bool true) ∧ Later w w' := by
  have CSZ0 := fun left (a : 0 ≤ left) (b : left ≤ 1048576) W (hW : Later w W) => szValueS d (fun x _ => szValue x) left a b W anyB v0 (ValsAt.later h0 hW)
  have CTO0 := fun (hc : (d.length + sumN Vl.cost d) ≤ 1048576) W (hW : Later w W) => toValueS d (fun x _ => toValue x) W anyB v0 (ValsAt.later h0 hW) hc
  obtain ⟨C0, hC0⟩ : ∃ C : Nat, C = (d.length + sumN Vl.cost d) := ⟨_, rfl⟩
  rw [← hC0] at CTO0
  simp only [← hC0] at CSZ0
  by_cases hc0 : C0 ≤ 1048576
  rotate_left
  · clear CTO0
    have HSZ0 := Lib.hid (by have H := CSZ0 1048576 (by omega) (by omega); rw [szR_big (by omega)] at H; exact H)
    clear CSZ0
    go_enter Try.func8, Try.ntmps8
    have L := Lib.hid (Later.rfl' w)
    go_wp2_with fail
    refine (HSZ0.out _ L.out).mono ?_; rintro r w1 ⟨rfl, hb⟩
    have hs_w1 := hb.size
    have T := Lib.hid ((Later.rfl' _).trans hb)
    replace L := Lib.hid (L.out.trans T.out)
    clear T hb
    go_wp2_with fail
    go_ret
    exact ⟨rfl, L.out⟩
  have HSZ0 := Lib.hid (by have H := CSZ0 1048576 (by omega) (by omega); rw [szR_small (by omega)] at H; exact H)
  have hn0 : (0 : Int) ≤ (1048576 - (C0 : Int)) := by omega
  have HTO0 := Lib.hid (CTO0 (by omega))
  have CS := fun W S v h => specListValue d W S v h (by omega)
  have CI := fun W S v h => implListValue d W S v h (by omega)
  have hmk0 : Dt.cnts (d.flatMap encV) ≤ 8388608 := by
    subst_vars
    have := cntL_le d; unfold cntL at this; omega
  have CMX0 := fun W S v (h : Own W S (.sl 7 d.length (d.flatMap encV)) v) => marksQ_at (markValueS d) 1 (show (1 : Int) = ((1 : Nat) : Int) by simp) (by omega) h
  obtain ⟨N0, hN0⟩ : ∃ N, N = 1 + Dt.cnts (d.flatMap encV) := ⟨_, rfl⟩
  simp only [← hN0] at CMX0
  have hNb0 : N0 ≤ 33554432 := by omega
  have hNp0 : (0 : Int) ≤ (N0 : Int) := by omega
  have HMX0 := Lib.hid CMX0
  have hbd : 1 + (listD d).topN ≤ 1099511627776 := by
    have := topN_le (listD d); have h2 := cost_list d; omega
  obtain ⟨K, hK⟩ : ∃ K, K = listD d := ⟨_, rfl⟩
  rw [← hK] at hbd
  simp only [← hK] at CS CI
  have CM := fun W S cs h => markValue K 1 1 rfl W S cs hbd h
  have CH := fun W S cs h => heldValue K 1 1 rfl W S cs hbd h
  obtain ⟨N, hN⟩ : ∃ N, N = 1 + K.topN := ⟨_, rfl⟩
  simp only [← hN] at CM CH
  have hNp : (0 : Int) ≤ (N : Int) := by omega
  have HS := Lib.hid CS; have HI := Lib.hid CI; have HM := Lib.hid CM; have HH := Lib.hid CH
  have HEQ := Lib.hid (eqValue K)
  have HEQ0 := Lib.hid (eqValueS d (fun x _ => eqValue x))
  clear CS CI CM CH hbd hK hN h0 CSZ0 hC0 hc0 CTO0 CMX0 hN0 hmk0
  go_enter Try.func8, Try.ntmps8
  have L := Lib.hid (Later.rfl' w)
  go_wp2_with fail
  refine (HSZ0.out _ L.out).mono ?_; rintro r w1 ⟨rfl, hb⟩
  have hs_w1 := hb.size
  have T := Lib.hid ((Later.rfl' _).trans hb)
  replace L := Lib.hid (L.out.trans T.out)
  clear T hb
  go_wp2_with fail
  refine (HTO0.out _ L.out).mono ?_; rintro r w2 ⟨⟨pa, rfl, hx⟩, hb⟩
  have hs_w2 := hb.size
  have T := Lib.hid ((Later.rfl' _).trans hb)
  replace L := Lib.hid (L.out.trans T.out)
  have AT0 := Lib.hid (hx)
  clear hx
  clear T hb
  go_wp2_with fail
  refine (HS.out _ _ _ AT0.out.at_).mono ?_; rintro r w3 ⟨⟨war0, war1, war2, war3, warA1, warn1, warc1, warA2, warn2, warc2, warA3, warn3, warc3, rfl, hx⟩, hb⟩
  have hs_w3 := hb.size
  have T := Lib.hid ((Later.rfl' _).trans hb)
  replace L := Lib.hid (L.out.trans T.out)
  replace AT0 := Lib.hid (AT0.out.later T.out)
  have WA := Lib.hid (hx)
  clear hx
  clear T hb
  clear AT0
  go_wp2_with fail
  refine (HTO0.out _ (L.out.alloc _)).mono ?_; rintro r w4 ⟨⟨x0v, rfl, hx⟩, hb⟩
  have hs_w4 := hb.size
  simp only [World.size_alloc] at hs_w4 hx
  have T := Lib.hid (((Later.rfl' _).alloc _).trans hb)
  replace L := Lib.hid (L.out.trans T.out)
  replace WA := Lib.hid (WA.out.later T.out)
  have BW := Lib.hid ((box_alloc w3 _ _).later hb)
  have X0 := Lib.hid (hx)
  clear hx
  clear T hb
  go_wp2_with fail
  refine (HI.out _ _ _ X0.out.at_).mono ?_; rintro r w5 ⟨⟨gr0, gr1, gr2, gr3, grA1, grn1, grc1, grA2, grn2, grc2, grA3, grn3, grc3, rfl, hx⟩, hb⟩
  have hs_w5 := hb.size
  have T := Lib.hid ((Later.rfl' _).trans hb)
  replace L := Lib.hid (L.out.trans T.out)
  replace WA := Lib.hid (WA.out.later T.out)
  replace BW := Lib.hid (BW.out.later T.out)
  replace X0 := Lib.hid (X0.out.later T.out)
  have GA := Lib.hid (hx)
  clear hx
  clear T hb
  have BW_z := BW.out.lt
  have BW_0 := BW.out.cell (j := 0) rfl
  have BW_1 := BW.out.cell (j := 1) rfl
  have BW_2 := BW.out.cell (j := 2) rfl
  have BW_3 := BW.out.cell (j := 3) rfl
  have BW_4 := BW.out.cell (j := 4) rfl
  have BW_5 := BW.out.cell (j := 5) rfl
  have BW_6 := BW.out.cell (j := 6) rfl
  go_wp2_with fail
  refine (HEQ.out _ _ _ _ _ (GA.out.ats.later ((Later.rfl' _).alloc _)) (WA.out.ats.later ((Later.rfl' _).alloc _))).mono ?_; rintro r w6 ⟨rfl, hb⟩
  clear BW_z BW_0 BW_1 BW_2 BW_3 BW_4 BW_5 BW_6
  have hs_w6 := hb.size
  simp only [World.size_alloc] at hs_w6
  have T := Lib.hid (((Later.rfl' _).alloc _).trans hb)
  replace L := Lib.hid (L.out.trans T.out)
  replace WA := Lib.hid (WA.out.later T.out)
  replace BW := Lib.hid (BW.out.later T.out)
  replace X0 := Lib.hid (X0.out.later T.out)
  replace GA := Lib.hid (GA.out.later T.out)
  have BG := Lib.hid ((box_alloc w5 _ _).later hb)
  clear T hb
  go_wp2_with fail
  refine (HTO0.out _ L.out).mono ?_; rintro r w7 ⟨⟨c0v, rfl, hx⟩, hb⟩
  have hs_w7 := hb.size
  have T := Lib.hid ((Later.rfl' _).trans hb)
  replace L := Lib.hid (L.out.trans T.out)
  replace WA := Lib.hid (WA.out.later T.out)
  replace BW := Lib.hid (BW.out.later T.out)
  replace X0 := Lib.hid (X0.out.later T.out)
  replace GA := Lib.hid (GA.out.later T.out)
  replace BG := Lib.hid (BG.out.later T.out)
  have AC := Lib.hid (hx)
  clear hx
  clear T hb
  go_wp2_with fail
  refine (HEQ0.out _ _ _ _ _ X0.out.at_ AC.out.at_).mono ?_; rintro r w8 ⟨rfl, hb⟩
  have hs_w8 := hb.size
  have T := Lib.hid ((Later.rfl' _).trans hb)
  replace L := Lib.hid (L.out.trans T.out)
  replace WA := Lib.hid (WA.out.later T.out)
  replace BW := Lib.hid (BW.out.later T.out)
  replace X0 := Lib.hid (X0.out.later T.out)
  replace GA := Lib.hid (GA.out.later T.out)
  replace BG := Lib.hid (BG.out.later T.out)
  replace AC := Lib.hid (AC.out.later T.out)
  clear T hb
  clear AC
  go_wp2_with fail
  refine (HMX0.out _ _ _ X0.out).mono ?_; rintro r w9 ⟨rfl, ho, hc⟩
  replace L := Lib.hid (Chg.later L.out hc (fun b hb => by omega))
  replace WA := Lib.hid (WA.out.chg hc (fun b h1 h2 => by omega))
  replace BW := Lib.hid (BW.out.chg hc (by omega))
  replace GA := Lib.hid (GA.out.chg hc (fun b h1 h2 => by omega))
  replace BG := Lib.hid (BG.out.chg hc (by omega))
  replace X0 := Lib.hid ho
  have hs_w9 := hc.size
  clear ho hc
  have BG_z := BG.out.lt
  have BG_0 := BG.out.cell (j := 0) rfl
  have BG_1 := BG.out.cell (j := 1) rfl
  have BG_2 := BG.out.cell (j := 2) rfl
  have BG_3 := BG.out.cell (j := 3) rfl
  have BG_4 := BG.out.cell (j := 4) rfl
  have BG_5 := BG.out.cell (j := 5) rfl
  have BG_6 := BG.out.cell (j := 6) rfl
  have BW_z := BW.out.lt
  have BW_0 := BW.out.cell (j := 0) rfl
  have BW_1 := BW.out.cell (j := 1) rfl
  have BW_2 := BW.out.cell (j := 2) rfl
  have BW_3 := BW.out.cell (j := 3) rfl
  have BW_4 := BW.out.cell (j := 4) rfl
  have BW_5 := BW.out.cell (j := 5) rfl
  have BW_6 := BW.out.cell (j := 6) rfl
  go_wp2_with fail
  refine (HEQ.out _ _ _ _ _ GA.out.ats WA.out.ats).mono ?_; rintro r w10 ⟨rfl, hb⟩
  clear BG_z BG_0 BG_1 BG_2 BG_3 BG_4 BG_5 BG_6 BW_z BW_0 BW_1 BW_2 BW_3 BW_4 BW_5 BW_6
  have hs_w10 := hb.size
  have T := Lib.hid ((Later.rfl' _).trans hb)
  replace L := Lib.hid (L.out.trans T.out)
  replace WA := Lib.hid (WA.out.later T.out)
  replace BW := Lib.hid (BW.out.later T.out)
  replace X0 := Lib.hid (X0.out.later T.out)
  replace GA := Lib.hid (GA.out.later T.out)
  replace BG := Lib.hid (BG.out.later T.out)
  clear T hb
  clear X0
  have BG_z := BG.out.lt
  have BG_0 := BG.out.cell (j := 0) rfl
  have BG_1 := BG.out.cell (j := 1) rfl
  have BG_2 := BG.out.cell (j := 2) rfl
  have BG_3 := BG.out.cell (j := 3) rfl
  have BG_4 := BG.out.cell (j := 4) rfl
  have BG_5 := BG.out.cell (j := 5) rfl
  have BG_6 := BG.out.cell (j := 6) rfl
  go_wp2_with fail
  refine (HM.out _ _ _ GA.out).mono ?_; rintro r w11 ⟨rfl, ho, hc⟩
  clear BG_z BG_0 BG_1 BG_2 BG_3 BG_4 BG_5 BG_6
  replace L := Lib.hid (Chg.later L.out hc (fun b hb => by omega))
  replace WA := Lib.hid (WA.out.chg hc (fun b h1 h2 => by omega))
  replace BW := Lib.hid (BW.out.chg hc (by omega))
  replace BG := Lib.hid (BG.out.chg hc (by omega))
  replace GA := Lib.hid ho
  have hs_w11 := hc.size
  clear ho hc
  have BG_z := BG.out.lt
  have BG_0 := BG.out.cell (j := 0) rfl
  have BG_1 := BG.out.cell (j := 1) rfl
  have BG_2 := BG.out.cell (j := 2) rfl
  have BG_3 := BG.out.cell (j := 3) rfl
  have BG_4 := BG.out.cell (j := 4) rfl
  have BG_5 := BG.out.cell (j := 5) rfl
  have BG_6 := BG.out.cell (j := 6) rfl
  go_wp2_with fail
  refine (HH.out _ _ _ GA.out.ats).mono ?_; rintro r w12 ⟨rfl, hb⟩
  clear BG_z BG_0 BG_1 BG_2 BG_3 BG_4 BG_5 BG_6
  have hs_w12 := hb.size
  have T := Lib.hid ((Later.rfl' _).trans hb)
  replace L := Lib.hid (L.out.trans T.out)
  replace WA := Lib.hid (WA.out.later T.out)
  replace BW := Lib.hid (BW.out.later T.out)
  replace GA := Lib.hid (GA.out.later T.out)
  replace BG := Lib.hid (BG.out.later T.out)
  clear T hb
  go_wp2_with fail
  refine (HTO0.out _ L.out).mono ?_; rintro r w13 ⟨⟨qa, rfl, hx⟩, hb⟩
  have hs_w13 := hb.size
  have T := Lib.hid ((Later.rfl' _).trans hb)
  replace L := Lib.hid (L.out.trans T.out)
  replace WA := Lib.hid (WA.out.later T.out)
  replace BW := Lib.hid (BW.out.later T.out)
  replace GA := Lib.hid (GA.out.later T.out)
  replace BG := Lib.hid (BG.out.later T.out)
  have AT0 := Lib.hid (hx)
  clear hx
  clear T hb
  go_wp2_with fail
  refine (HI.out _ _ _ AT0.out.at_).mono ?_; rintro r w14 ⟨⟨har0, har1, har2, har3, harA1, harn1, harc1, harA2, harn2, harc2, harA3, harn3, harc3, rfl, hx⟩, hb⟩
  have hs_w14 := hb.size
  have T := Lib.hid ((Later.rfl' _).trans hb)
  replace L := Lib.hid (L.out.trans T.out)
  replace WA := Lib.hid (WA.out.later T.out)
  replace BW := Lib.hid (BW.out.later T.out)
  replace GA := Lib.hid (GA.out.later T.out)
  replace BG := Lib.hid (BG.out.later T.out)
  replace AT0 := Lib.hid (AT0.out.later T.out)
  have HA := Lib.hid (hx)
  clear hx
  clear T hb
  clear AT0
  have BW_z := BW.out.lt
  have BW_0 := BW.out.cell (j := 0) rfl
  have BW_1 := BW.out.cell (j := 1) rfl
  have BW_2 := BW.out.cell (j := 2) rfl
  have BW_3 := BW.out.cell (j := 3) rfl
  have BW_4 := BW.out.cell (j := 4) rfl
  have BW_5 := BW.out.cell (j := 5) rfl
  have BW_6 := BW.out.cell (j := 6) rfl
  go_wp2_with fail
  refine (HEQ.out _ _ _ _ _ (HA.out.ats.later ((Later.rfl' _).alloc _)) (WA.out.ats.later ((Later.rfl' _).alloc _))).mono ?_; rintro r w15 ⟨rfl, hb⟩
  clear BW_z BW_0 BW_1 BW_2 BW_3 BW_4 BW_5 BW_6
  have hs_w15 := hb.size
  simp only [World.size_alloc] at hs_w15
  have T := Lib.hid (((Later.rfl' _).alloc _).trans hb)
  replace L := Lib.hid (L.out.trans T.out)
  replace WA := Lib.hid (WA.out.later T.out)
  replace BW := Lib.hid (BW.out.later T.out)
  replace GA := Lib.hid (GA.out.later T.out)
  replace BG := Lib.hid (BG.out.later T.out)
  replace HA := Lib.hid (HA.out.later T.out)
  have BH := Lib.hid ((box_alloc w14 _ _).later hb)
  clear T hb
  have BG_z := BG.out.lt
  have BG_0 := BG.out.cell (j := 0) rfl
  have BG_1 := BG.out.cell (j := 1) rfl
  have BG_2 := BG.out.cell (j := 2) rfl
  have BG_3 := BG.out.cell (j := 3) rfl
  have BG_4 := BG.out.cell (j := 4) rfl
  have BG_5 := BG.out.cell (j := 5) rfl
  have BG_6 := BG.out.cell (j := 6) rfl
  go_wp2_with fail
  refine (HH.out _ _ _ GA.out.ats).mono ?_; rintro r w16 ⟨rfl, hb⟩
  clear BG_z BG_0 BG_1 BG_2 BG_3 BG_4 BG_5 BG_6
  have hs_w16 := hb.size
  have T := Lib.hid ((Later.rfl' _).trans hb)
  replace L := Lib.hid (L.out.trans T.out)
  replace WA := Lib.hid (WA.out.later T.out)
  replace BW := Lib.hid (BW.out.later T.out)
  replace GA := Lib.hid (GA.out.later T.out)
  replace BG := Lib.hid (BG.out.later T.out)
  replace HA := Lib.hid (HA.out.later T.out)
  replace BH := Lib.hid (BH.out.later T.out)
  clear T hb
  go_wp2_with fail
  go_ret
  exact ⟨rfl, L.out⟩
end Go.Proofs.Ytghemlokpfipoaa
