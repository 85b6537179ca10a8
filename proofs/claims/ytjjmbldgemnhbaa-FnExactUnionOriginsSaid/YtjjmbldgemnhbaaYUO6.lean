/-
  The law FnExactUnionOrigins: its walk.
-/
import Derived.Test.YtjjmbldgemnhbaaYEx
import Derived.Test.YtjjmbldgemnhbaaYUO5
import Derived.Deep.RegionHeld3
namespace Go.Proofs.Ytjjmbldgemnhbaa
open Go.ChangeShapes Go.WideShapes Go.ChangeAt Go.RowKit
set_option linter.unusedVariables false
set_option linter.unusedSimpArgs false

set_option maxHeartbeats 4000000 in
theorem walk_FnExactUnionOrigins (v0 : Value) (l1 : List Org) (v1 : Value) (l2 : List Org) (w : World) (h0 : OrigsAt w v0 l1) (h1 : OrigsAt w v1 l2) : Calls Try.prog 3 #[v0, v1] w fun r w' => r = .returned (.bool true) ∧ Later w w' := by
  have CSZ0 := fun left (a : 0 ≤ left) (b : left ≤ 1048576) W (hW : Later w W) => szOrigs l1 W anyB v0 (h0.later hW) left a b
  have CTO0 := fun (hc : l1.length ≤ 1048576) W (hW : Later w W) => toOriginS l1 W anyB v0 (OrigsAt.later h0 hW) hc
  have CSZ1 := fun left (a : 0 ≤ left) (b : left ≤ 1048576) W (hW : Later w W) => szOrigs l2 W anyB v1 (h1.later hW) left a b
  have CTO1 := fun (hc : l2.length ≤ 1048576) W (hW : Later w W) => toOriginS l2 W anyB v1 (OrigsAt.later h1 hW) hc
  obtain ⟨C0, hC0⟩ : ∃ C : Nat, C = l1.length := ⟨_, rfl⟩
  rw [← hC0] at CTO0
  simp only [← hC0] at CSZ0
  obtain ⟨C1, hC1⟩ : ∃ C : Nat, C = l2.length := ⟨_, rfl⟩
  rw [← hC1] at CTO1
  simp only [← hC1] at CSZ1
  by_cases hc0 : C0 ≤ 1048576
  rotate_left
  · clear CTO0 CTO1
    have HSZ0 := Lib.hid (by have H := CSZ0 1048576 (by omega) (by omega); rw [szR_big (by omega)] at H; exact H)
    clear CSZ0 hC0 CSZ1 hC1
    go_enter Try.func3, Try.ntmps3
    have L := Lib.hid (Later.rfl' w)
    go_wp2_with fail
    refine (HSZ0.out _ L.out).mono ?_; rintro r w1 ⟨rfl, hb⟩
    have hs_w1 := hb.size
    have T := Lib.hid ((Later.rfl' _).trans hb)
    replace L := Lib.hid (L.out.trans T.out)
    clear T hb
    go_wp2_with fail
    go_ret
    exact ⟨rfl, L.out⟩
  by_cases hc1 : C0 + C1 ≤ 1048576
  rotate_left
  · clear CTO0 CTO1
    have HSZ0 := Lib.hid (by have H := CSZ0 1048576 (by omega) (by omega); rw [szR_small (by omega)] at H; exact H)
    have hn0 : (0 : Int) ≤ (1048576 - (C0 : Int)) := by omega
    have HSZ1 := Lib.hid (by have H := CSZ1 (1048576 - (C0 : Int)) (by omega) (by omega); rw [szR_big (by omega)] at H; exact H)
    clear CSZ0 hC0 CSZ1 hC1
    go_enter Try.func3, Try.ntmps3
    have L := Lib.hid (Later.rfl' w)
    go_wp2_with fail
    refine (HSZ0.out _ L.out).mono ?_; rintro r w1 ⟨rfl, hb⟩
    have hs_w1 := hb.size
    have T := Lib.hid ((Later.rfl' _).trans hb)
    replace L := Lib.hid (L.out.trans T.out)
    clear T hb
    go_wp2_with fail
    refine (HSZ1.out _ L.out).mono ?_; rintro r w2 ⟨rfl, hb⟩
    have hs_w2 := hb.size
    have T := Lib.hid ((Later.rfl' _).trans hb)
    replace L := Lib.hid (L.out.trans T.out)
    clear T hb
    go_wp2_with fail
    go_ret
    exact ⟨rfl, L.out⟩
  have HSZ0 := Lib.hid (by have H := CSZ0 1048576 (by omega) (by omega); rw [szR_small (by omega)] at H; exact H)
  have hn0 : (0 : Int) ≤ (1048576 - (C0 : Int)) := by omega
  have HTO0 := Lib.hid (CTO0 (by omega))
  have HSZ1 := Lib.hid (by have H := CSZ1 (1048576 - (C0 : Int)) (by omega) (by omega); rw [szR_small (by omega)] at H; exact H)
  have hn1 : (0 : Int) ≤ ((1048576 - (C0 : Int)) - (C1 : Int)) := by omega
  have HTO1 := Lib.hid (CTO1 (by omega))
  have CS := fun W S v T u h k => specUnion l1 l2 (by omega) W S T v u h k
  have CI := fun W S v T u h k => implUnion l1 l2 (by omega) W S T v u h k
  have hmk0 : Dt.cnts (l1.flatMap encO) ≤ 8388608 := by
    subst_vars
    rw [cntO]; omega
  have CMX0 := fun W S v (h : Own W S (.sl 2 l1.length (l1.flatMap encO)) v) => marksQ_at (markOriginS l1) 1 (show (1 : Int) = ((1 : Nat) : Int) by simp) (by omega) h
  obtain ⟨N0, hN0⟩ : ∃ N, N = 1 + Dt.cnts (l1.flatMap encO) := ⟨_, rfl⟩
  simp only [← hN0] at CMX0
  have hNb0 : N0 ≤ 33554432 := by omega
  have hNp0 : (0 : Int) ≤ (N0 : Int) := by omega
  have HMX0 := Lib.hid CMX0
  have hmk1 : Dt.cnts (l2.flatMap encO) ≤ 8388608 := by
    subst_vars
    rw [cntO]; omega
  have CMX1 := fun W S v (h : Own W S (.sl 2 l2.length (l2.flatMap encO)) v) => marksQ_at (markOriginS l2) N0 (show ((N0 : Int) : Int) = ((N0 : Nat) : Int) by simp) (by omega) h
  obtain ⟨N1, hN1⟩ : ∃ N, N = N0 + Dt.cnts (l2.flatMap encO) := ⟨_, rfl⟩
  simp only [← hN1] at CMX1
  have hNb1 : N1 ≤ 33554432 := by omega
  have hNp1 : (0 : Int) ≤ (N1 : Int) := by omega
  have HMX1 := Lib.hid CMX1
  have hbd : 1 + Dt.cnts ((unionO l1 l2).flatMap encO) ≤ 1099511627776 := by
    have := length_unionO l1 l2; rw [cntO]; omega
  obtain ⟨K, hK⟩ : ∃ K, K = unionO l1 l2 := ⟨_, rfl⟩
  rw [← hK] at hbd
  simp only [← hK] at CS CI
  have CM := fun W S v (h : Own W S (.sl 2 K.length (K.flatMap encO)) v) => marksQ_at (markOriginS K) 1 (show (1 : Int) = ((1 : Nat) : Int) by simp) hbd h
  have CH := fun W S v h => heldOriginS K 1 1 W S v (by simp) (flat_len encO_len K) hbd h
  obtain ⟨N, hN⟩ : ∃ N, N = 1 + Dt.cnts (K.flatMap encO) := ⟨_, rfl⟩
  simp only [← hN] at CM CH
  have hNp : (0 : Int) ≤ (N : Int) := by omega
  have HS := Lib.hid CS; have HI := Lib.hid CI; have HM := Lib.hid CM; have HH := Lib.hid CH
  have HEQ := Lib.hid (eqOriginS K)
  have HEQ0 := Lib.hid (eqOriginS l1)
  have HEQ1 := Lib.hid (eqOriginS l2)
  clear CS CI CM CH hbd hK hN h0 h1 CSZ0 hC0 hc0 CSZ1 hC1 hc1 CTO0 CTO1 CMX0 hN0 hmk0 CMX1 hN1 hmk1
  go_enter Try.func3, Try.ntmps3
  have L := Lib.hid (Later.rfl' w)
  go_wp2_with fail
  refine (HSZ0.out _ L.out).mono ?_; rintro r w1 ⟨rfl, hb⟩
  have hs_w1 := hb.size
  have T := Lib.hid ((Later.rfl' _).trans hb)
  replace L := Lib.hid (L.out.trans T.out)
  clear T hb
  go_wp2_with fail
  refine (HSZ1.out _ L.out).mono ?_; rintro r w2 ⟨rfl, hb⟩
  have hs_w2 := hb.size
  have T := Lib.hid ((Later.rfl' _).trans hb)
  replace L := Lib.hid (L.out.trans T.out)
  clear T hb
  go_wp2_with fail
  refine (HTO0.out _ L.out).mono ?_; rintro r w3 ⟨⟨pa, rfl, hx⟩, hb⟩
  have hs_w3 := hb.size
  have T := Lib.hid ((Later.rfl' _).trans hb)
  replace L := Lib.hid (L.out.trans T.out)
  have AT0 := Lib.hid (hx)
  clear hx
  clear T hb
  go_wp2_with fail
  refine (HTO1.out _ L.out).mono ?_; rintro r w4 ⟨⟨pb, rfl, hx⟩, hb⟩
  have hs_w4 := hb.size
  have T := Lib.hid ((Later.rfl' _).trans hb)
  replace L := Lib.hid (L.out.trans T.out)
  replace AT0 := Lib.hid (AT0.out.later T.out)
  have AT1 := Lib.hid (hx)
  clear hx
  clear T hb
  go_wp2_with fail
  refine (HS.out _ _ _ _ _ AT0.out.at_ AT1.out.at_).mono ?_; rintro r w5 ⟨⟨war, rfl, hx⟩, hb⟩
  have hs_w5 := hb.size
  have T := Lib.hid ((Later.rfl' _).trans hb)
  replace L := Lib.hid (L.out.trans T.out)
  replace AT0 := Lib.hid (AT0.out.later T.out)
  replace AT1 := Lib.hid (AT1.out.later T.out)
  have WA := Lib.hid (hx)
  clear hx
  clear T hb
  clear AT0 AT1
  go_wp2_with fail
  refine (HTO0.out _ L.out).mono ?_; rintro r w6 ⟨⟨x0v, rfl, hx⟩, hb⟩
  have hs_w6 := hb.size
  have T := Lib.hid ((Later.rfl' _).trans hb)
  replace L := Lib.hid (L.out.trans T.out)
  replace WA := Lib.hid (WA.out.later T.out)
  have X0 := Lib.hid (hx)
  clear hx
  clear T hb
  go_wp2_with fail
  refine (HTO1.out _ L.out).mono ?_; rintro r w7 ⟨⟨x1v, rfl, hx⟩, hb⟩
  have hs_w7 := hb.size
  have T := Lib.hid ((Later.rfl' _).trans hb)
  replace L := Lib.hid (L.out.trans T.out)
  replace WA := Lib.hid (WA.out.later T.out)
  replace X0 := Lib.hid (X0.out.later T.out)
  have X1 := Lib.hid (hx)
  clear hx
  clear T hb
  go_wp2_with fail
  refine (HI.out _ _ _ _ _ X0.out.at_ X1.out.at_).mono ?_; rintro r w8 ⟨⟨gr, rfl, hx⟩, hb⟩
  have hs_w8 := hb.size
  have T := Lib.hid ((Later.rfl' _).trans hb)
  replace L := Lib.hid (L.out.trans T.out)
  replace WA := Lib.hid (WA.out.later T.out)
  replace X0 := Lib.hid (X0.out.later T.out)
  replace X1 := Lib.hid (X1.out.later T.out)
  have GA := Lib.hid (hx)
  clear hx
  clear T hb
  go_wp2_with fail
  refine (HEQ.out _ _ _ _ _ GA.out.at_ WA.out.at_).mono ?_; rintro r w9 ⟨rfl, hb⟩
  have hs_w9 := hb.size
  have T := Lib.hid ((Later.rfl' _).trans hb)
  replace L := Lib.hid (L.out.trans T.out)
  replace WA := Lib.hid (WA.out.later T.out)
  replace X0 := Lib.hid (X0.out.later T.out)
  replace X1 := Lib.hid (X1.out.later T.out)
  replace GA := Lib.hid (GA.out.later T.out)
  clear T hb
  go_wp2_with fail
  refine (HTO0.out _ L.out).mono ?_; rintro r w10 ⟨⟨c0v, rfl, hx⟩, hb⟩
  have hs_w10 := hb.size
  have T := Lib.hid ((Later.rfl' _).trans hb)
  replace L := Lib.hid (L.out.trans T.out)
  replace WA := Lib.hid (WA.out.later T.out)
  replace X0 := Lib.hid (X0.out.later T.out)
  replace X1 := Lib.hid (X1.out.later T.out)
  replace GA := Lib.hid (GA.out.later T.out)
  have AC := Lib.hid (hx)
  clear hx
  clear T hb
  go_wp2_with fail
  refine (HEQ0.out _ _ _ _ _ X0.out.at_ AC.out.at_).mono ?_; rintro r w11 ⟨rfl, hb⟩
  have hs_w11 := hb.size
  have T := Lib.hid ((Later.rfl' _).trans hb)
  replace L := Lib.hid (L.out.trans T.out)
  replace WA := Lib.hid (WA.out.later T.out)
  replace X0 := Lib.hid (X0.out.later T.out)
  replace X1 := Lib.hid (X1.out.later T.out)
  replace GA := Lib.hid (GA.out.later T.out)
  replace AC := Lib.hid (AC.out.later T.out)
  clear T hb
  clear AC
  go_wp2_with fail
  refine (HTO1.out _ L.out).mono ?_; rintro r w12 ⟨⟨c1v, rfl, hx⟩, hb⟩
  have hs_w12 := hb.size
  have T := Lib.hid ((Later.rfl' _).trans hb)
  replace L := Lib.hid (L.out.trans T.out)
  replace WA := Lib.hid (WA.out.later T.out)
  replace X0 := Lib.hid (X0.out.later T.out)
  replace X1 := Lib.hid (X1.out.later T.out)
  replace GA := Lib.hid (GA.out.later T.out)
  have AC := Lib.hid (hx)
  clear hx
  clear T hb
  go_wp2_with fail
  refine (HEQ1.out _ _ _ _ _ X1.out.at_ AC.out.at_).mono ?_; rintro r w13 ⟨rfl, hb⟩
  have hs_w13 := hb.size
  have T := Lib.hid ((Later.rfl' _).trans hb)
  replace L := Lib.hid (L.out.trans T.out)
  replace WA := Lib.hid (WA.out.later T.out)
  replace X0 := Lib.hid (X0.out.later T.out)
  replace X1 := Lib.hid (X1.out.later T.out)
  replace GA := Lib.hid (GA.out.later T.out)
  replace AC := Lib.hid (AC.out.later T.out)
  clear T hb
  clear AC
  go_wp2_with fail
  refine (HMX0.out _ _ _ X0.out).mono ?_; rintro r w14 ⟨rfl, ho, hc⟩
  replace L := Lib.hid (Chg.later L.out hc (fun b hb => by omega))
  replace WA := Lib.hid (WA.out.chg hc (fun b h1 h2 => by omega))
  replace X1 := Lib.hid (X1.out.chg hc (fun b h1 h2 => by omega))
  replace GA := Lib.hid (GA.out.chg hc (fun b h1 h2 => by omega))
  replace X0 := Lib.hid ho
  have hs_w14 := hc.size
  clear ho hc
  go_wp2_with fail
  refine (HMX1.out _ _ _ X1.out).mono ?_; rintro r w15 ⟨rfl, ho, hc⟩
  replace L := Lib.hid (Chg.later L.out hc (fun b hb => by omega))
  replace WA := Lib.hid (WA.out.chg hc (fun b h1 h2 => by omega))
  replace X0 := Lib.hid (X0.out.chg hc (fun b h1 h2 => by omega))
  replace GA := Lib.hid (GA.out.chg hc (fun b h1 h2 => by omega))
  replace X1 := Lib.hid ho
  have hs_w15 := hc.size
  clear ho hc
  go_wp2_with fail
  refine (HEQ.out _ _ _ _ _ GA.out.at_ WA.out.at_).mono ?_; rintro r w16 ⟨rfl, hb⟩
  have hs_w16 := hb.size
  have T := Lib.hid ((Later.rfl' _).trans hb)
  replace L := Lib.hid (L.out.trans T.out)
  replace WA := Lib.hid (WA.out.later T.out)
  replace X0 := Lib.hid (X0.out.later T.out)
  replace X1 := Lib.hid (X1.out.later T.out)
  replace GA := Lib.hid (GA.out.later T.out)
  clear T hb
  clear X0 X1
  go_wp2_with fail
  refine (HM.out _ _ _ GA.out).mono ?_; rintro r w17 ⟨rfl, ho, hc⟩
  replace L := Lib.hid (Chg.later L.out hc (fun b hb => by omega))
  replace WA := Lib.hid (WA.out.chg hc (fun b h1 h2 => by omega))
  replace GA := Lib.hid ho
  have hs_w17 := hc.size
  clear ho hc
  go_wp2_with fail
  refine (HH.out _ _ _ GA.out.at_).mono ?_; rintro r w18 ⟨rfl, hb⟩
  have hs_w18 := hb.size
  have T := Lib.hid ((Later.rfl' _).trans hb)
  replace L := Lib.hid (L.out.trans T.out)
  replace WA := Lib.hid (WA.out.later T.out)
  replace GA := Lib.hid (GA.out.later T.out)
  clear T hb
  go_wp2_with fail
  refine (HTO0.out _ L.out).mono ?_; rintro r w19 ⟨⟨qa, rfl, hx⟩, hb⟩
  have hs_w19 := hb.size
  have T := Lib.hid ((Later.rfl' _).trans hb)
  replace L := Lib.hid (L.out.trans T.out)
  replace WA := Lib.hid (WA.out.later T.out)
  replace GA := Lib.hid (GA.out.later T.out)
  have AT0 := Lib.hid (hx)
  clear hx
  clear T hb
  go_wp2_with fail
  refine (HTO1.out _ L.out).mono ?_; rintro r w20 ⟨⟨qb, rfl, hx⟩, hb⟩
  have hs_w20 := hb.size
  have T := Lib.hid ((Later.rfl' _).trans hb)
  replace L := Lib.hid (L.out.trans T.out)
  replace WA := Lib.hid (WA.out.later T.out)
  replace GA := Lib.hid (GA.out.later T.out)
  replace AT0 := Lib.hid (AT0.out.later T.out)
  have AT1 := Lib.hid (hx)
  clear hx
  clear T hb
  go_wp2_with fail
  refine (HI.out _ _ _ _ _ AT0.out.at_ AT1.out.at_).mono ?_; rintro r w21 ⟨⟨har, rfl, hx⟩, hb⟩
  have hs_w21 := hb.size
  have T := Lib.hid ((Later.rfl' _).trans hb)
  replace L := Lib.hid (L.out.trans T.out)
  replace WA := Lib.hid (WA.out.later T.out)
  replace GA := Lib.hid (GA.out.later T.out)
  replace AT0 := Lib.hid (AT0.out.later T.out)
  replace AT1 := Lib.hid (AT1.out.later T.out)
  have HA := Lib.hid (hx)
  clear hx
  clear T hb
  clear AT0 AT1
  go_wp2_with fail
  refine (HEQ.out _ _ _ _ _ HA.out.at_ WA.out.at_).mono ?_; rintro r w22 ⟨rfl, hb⟩
  have hs_w22 := hb.size
  have T := Lib.hid ((Later.rfl' _).trans hb)
  replace L := Lib.hid (L.out.trans T.out)
  replace WA := Lib.hid (WA.out.later T.out)
  replace GA := Lib.hid (GA.out.later T.out)
  replace HA := Lib.hid (HA.out.later T.out)
  clear T hb
  go_wp2_with fail
  refine (HH.out _ _ _ GA.out.at_).mono ?_; rintro r w23 ⟨rfl, hb⟩
  have hs_w23 := hb.size
  have T := Lib.hid ((Later.rfl' _).trans hb)
  replace L := Lib.hid (L.out.trans T.out)
  replace WA := Lib.hid (WA.out.later T.out)
  replace GA := Lib.hid (GA.out.later T.out)
  replace HA := Lib.hid (HA.out.later T.out)
  clear T hb
  go_wp2_with fail
  go_ret
  exact ⟨rfl, L.out⟩
end Go.Proofs.Ytjjmbldgemnhbaa
