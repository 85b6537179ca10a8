/-
  The law FnExactSortNames: its walk.
-/
import Derived.Test.YthjabeoafdohjaaEx
import Derived.Test.YthjabeoafdohjaaSO2
import Derived.Test.YthjabeoafdohjaaSN2
import Derived.Deep.RegionHeld3
namespace Go.Proofs.Ythjabeoafdohjaa
open Go.ChangeShapes Go.WideShapes Go.ChangeAt Go.RowKit
set_option linter.unusedVariables false
set_option linter.unusedSimpArgs false

theorem copyS_ownS {W w' : World} {xs : List ByteArray} {r : Ending} (h : OwnS W w' xs r) (hf : ∀ x ∈ xs, x.size ≤ 9223372036854775807) : CopyS W w' 1 encS xs r := by
  obtain ⟨v, rfl, ho⟩ := h
  exact ⟨v, rfl, own_strs ho hf fun g hg => ⟨(ho.lt g hg).1, (ho.lt g hg).2⟩⟩
set_option maxHeartbeats 4000000 in
theorem walk_FnExactSortNames (v0 : Value) (xs : List ByteArray) (w : World) (h0 : Strs w v0 xs) : Calls Try.prog 11 #[v0] w fun r w' => r = .returned (.bool true) ∧ Later w w' := by
  have CSZ0 := fun left (a : 0 ≤ left) (b : left ≤ 1048576) W (hW : Later w W) => (szStringS v0 xs left W (h0.later hW) a b).mono fun _ _ h => And.intro h.1 h.2.later
  replace h0 := strs_sl h0
  have CTO0 := fun (hc : costS xs ≤ 1048576) W (hW : Later w W) => copyStrs xs W anyB v0 (h0.later hW) (by unfold costS at hc; omega)
  obtain ⟨C0, hC0⟩ : ∃ C : Nat, C = costS xs := ⟨_, rfl⟩
  rw [← hC0] at CTO0
  simp only [← hC0] at CSZ0
  by_cases hc0 : C0 ≤ 1048576
  rotate_left
  · clear CTO0
    have HSZ0 := Lib.hid (by have H := CSZ0 1048576 (by omega) (by omega); rw [szR_big (by omega)] at H; exact H)
    clear CSZ0
    go_enter Try.func11, Try.ntmps11
    have L := Lib.hid (Later.rfl' w)
    go_wp2_with fail
    refine (HSZ0.out _ L.out).mono ?_; rintro r w1 ⟨rfl, hb⟩
    have hs_w1 := hb.size
    have T := Lib.hid ((Later.rfl' _).trans hb)
    replace L := Lib.hid (L.out.trans T.out)
    clear T hb
    go_wp2_with fail
    go_ret
    exact ⟨rfl, L.out⟩
  have HSZ0 := Lib.hid (by have H := CSZ0 1048576 (by omega) (by omega); rw [szR_small (by omega)] at H; exact H)
  have hn0 : (0 : Int) ≤ (1048576 - (C0 : Int)) := by omega
  have HTO0 := Lib.hid (CTO0 (by omega))
  have CS := fun W S v (h : SlAt W S 1 encS xs v) => (specSortNames v xs W (sl_strs h) (by subst_vars; unfold costS at *; omega)).mono fun _ _ q => (And.intro (copyS_ownS q.1 fun x hx => (sl_strs h).1.2 x ((mem_sortB _ _).1 hx)) q.2)
  have CI := fun W S v (h : SlAt W S 1 encS xs v) => (implSortNames v xs W (sl_strs h) (by subst_vars; unfold costS at *; omega)).mono fun _ _ q => (And.intro (copyS_ownS q.1 fun x hx => (sl_strs h).1.2 x ((mem_sortB _ _).1 hx)) q.2)
  have hmk0 : Dt.cnts (xs.flatMap encS) ≤ 8388608 := by
    subst_vars
    have := cntC_eq xs; unfold cntC at this; unfold costS at *; omega
  have CMX0 := fun W S v (h : Own W S (.sl 1 xs.length (xs.flatMap encS)) v) => marksQ_at (markStrs xs) 1 (show (1 : Int) = ((1 : Nat) : Int) by simp) (by omega) h
  obtain ⟨N0, hN0⟩ : ∃ N, N = 1 + Dt.cnts (xs.flatMap encS) := ⟨_, rfl⟩
  simp only [← hN0] at CMX0
  have hNb0 : N0 ≤ 33554432 := by omega
  have hNp0 : (0 : Int) ≤ (N0 : Int) := by omega
  have HMX0 := Lib.hid CMX0
  have hbd : 1 + Dt.cnts ((sortB xs).flatMap encS) ≤ 1099511627776 := by
    have := cntC_eq (sortB xs); have h2 := sort_le xs; unfold cntC at this; unfold costS at *; omega
  obtain ⟨K, hK⟩ : ∃ K, K = sortB xs := ⟨_, rfl⟩
  rw [← hK] at hbd
  simp only [← hK] at CS CI
  have CM := fun W S v (h : Own W S (.sl 1 K.length (K.flatMap encS)) v) => marksQ_at (markStrs K) 1 (show (1 : Int) = ((1 : Nat) : Int) by simp) hbd h
  have CH := fun W S v h => heldStrs K 1 1 W S v (by simp) (flat_len encS_len K) hbd h
  obtain ⟨N, hN⟩ : ∃ N, N = 1 + Dt.cnts (K.flatMap encS) := ⟨_, rfl⟩
  simp only [← hN] at CM CH
  have hNp : (0 : Int) ≤ (N : Int) := by omega
  have HS := Lib.hid CS; have HI := Lib.hid CI; have HM := Lib.hid CM; have HH := Lib.hid CH
  have HEQ := Lib.hid (eqStrs K)
  have HEQ0 := Lib.hid (eqStrs xs)
  clear CS CI CM CH hbd hK hN h0 CSZ0 hC0 hc0 CTO0 CMX0 hN0 hmk0
  go_enter Try.func11, Try.ntmps11
  have L := Lib.hid (Later.rfl' w)
  go_wp2_with fail
  refine (HSZ0.out _ L.out).mono ?_; rintro r w1 ⟨rfl, hb⟩
  have hs_w1 := hb.size
  have T := Lib.hid ((Later.rfl' _).trans hb)
  replace L := Lib.hid (L.out.trans T.out)
  clear T hb
  go_wp2_with fail
  refine (HTO0.out _ L.out).mono ?_; rintro r w2 ⟨⟨pa, rfl, hx⟩, hb⟩
  have hs_w2 := hb.size
  have T := Lib.hid ((Later.rfl' _).trans hb)
  replace L := Lib.hid (L.out.trans T.out)
  have AT0 := Lib.hid (hx)
  clear hx
  clear T hb
  go_wp2_with fail
  refine (HS.out _ _ _ AT0.out.at_).mono ?_; rintro r w3 ⟨⟨war, rfl, hx⟩, hb⟩
  have hs_w3 := hb.size
  have T := Lib.hid ((Later.rfl' _).trans hb)
  replace L := Lib.hid (L.out.trans T.out)
  replace AT0 := Lib.hid (AT0.out.later T.out)
  have WA := Lib.hid (hx)
  clear hx
  clear T hb
  clear AT0
  go_wp2_with fail
  refine (HTO0.out _ L.out).mono ?_; rintro r w4 ⟨⟨x0v, rfl, hx⟩, hb⟩
  have hs_w4 := hb.size
  have T := Lib.hid ((Later.rfl' _).trans hb)
  replace L := Lib.hid (L.out.trans T.out)
  replace WA := Lib.hid (WA.out.later T.out)
  have X0 := Lib.hid (hx)
  clear hx
  clear T hb
  go_wp2_with fail
  refine (HI.out _ _ _ X0.out.at_).mono ?_; rintro r w5 ⟨⟨gr, rfl, hx⟩, hb⟩
  have hs_w5 := hb.size
  have T := Lib.hid ((Later.rfl' _).trans hb)
  replace L := Lib.hid (L.out.trans T.out)
  replace WA := Lib.hid (WA.out.later T.out)
  replace X0 := Lib.hid (X0.out.later T.out)
  have GA := Lib.hid (hx)
  clear hx
  clear T hb
  go_wp2_with fail
  refine (HEQ.out _ _ _ _ _ GA.out.at_ WA.out.at_).mono ?_; rintro r w6 ⟨rfl, hb⟩
  have hs_w6 := hb.size
  have T := Lib.hid ((Later.rfl' _).trans hb)
  replace L := Lib.hid (L.out.trans T.out)
  replace WA := Lib.hid (WA.out.later T.out)
  replace X0 := Lib.hid (X0.out.later T.out)
  replace GA := Lib.hid (GA.out.later T.out)
  clear T hb
  go_wp2_with fail
  refine (HTO0.out _ L.out).mono ?_; rintro r w7 ⟨⟨c0v, rfl, hx⟩, hb⟩
  have hs_w7 := hb.size
  have T := Lib.hid ((Later.rfl' _).trans hb)
  replace L := Lib.hid (L.out.trans T.out)
  replace WA := Lib.hid (WA.out.later T.out)
  replace X0 := Lib.hid (X0.out.later T.out)
  replace GA := Lib.hid (GA.out.later T.out)
  have AC := Lib.hid (hx)
  clear hx
  clear T hb
  go_wp2_with fail
  refine (HEQ0.out _ _ _ _ _ X0.out.at_ AC.out.at_).mono ?_; rintro r w8 ⟨rfl, hb⟩
  have hs_w8 := hb.size
  have T := Lib.hid ((Later.rfl' _).trans hb)
  replace L := Lib.hid (L.out.trans T.out)
  replace WA := Lib.hid (WA.out.later T.out)
  replace X0 := Lib.hid (X0.out.later T.out)
  replace GA := Lib.hid (GA.out.later T.out)
  replace AC := Lib.hid (AC.out.later T.out)
  clear T hb
  clear AC
  go_wp2_with fail
  refine (HMX0.out _ _ _ X0.out).mono ?_; rintro r w9 ⟨rfl, ho, hc⟩
  replace L := Lib.hid (Chg.later L.out hc (fun b hb => by omega))
  replace WA := Lib.hid (WA.out.chg hc (fun b h1 h2 => by omega))
  replace GA := Lib.hid (GA.out.chg hc (fun b h1 h2 => by omega))
  replace X0 := Lib.hid ho
  have hs_w9 := hc.size
  clear ho hc
  go_wp2_with fail
  refine (HEQ.out _ _ _ _ _ GA.out.at_ WA.out.at_).mono ?_; rintro r w10 ⟨rfl, hb⟩
  have hs_w10 := hb.size
  have T := Lib.hid ((Later.rfl' _).trans hb)
  replace L := Lib.hid (L.out.trans T.out)
  replace WA := Lib.hid (WA.out.later T.out)
  replace X0 := Lib.hid (X0.out.later T.out)
  replace GA := Lib.hid (GA.out.later T.out)
  clear T hb
  clear X0
  go_wp2_with fail
  refine (HM.out _ _ _ GA.out).mono ?_; rintro r w11 ⟨rfl, ho, hc⟩
  replace L := Lib.hid (Chg.later L.out hc (fun b hb => by omega))
  replace WA := Lib.hid (WA.out.chg hc (fun b h1 h2 => by omega))
  replace GA := Lib.hid ho
  have hs_w11 := hc.size
  clear ho hc
  go_wp2_with fail
  refine (HH.out _ _ _ GA.out.at_).mono ?_; rintro r w12 ⟨rfl, hb⟩
  have hs_w12 := hb.size
  have T := Lib.hid ((Later.rfl' _).trans hb)
  replace L := Lib.hid (L.out.trans T.out)
  replace WA := Lib.hid (WA.out.later T.out)
  replace GA := Lib.hid (GA.out.later T.out)
  clear T hb
  go_wp2_with fail
  refine (HTO0.out _ L.out).mono ?_; rintro r w13 ⟨⟨qa, rfl, hx⟩, hb⟩
  have hs_w13 := hb.size
  have T := Lib.hid ((Later.rfl' _).trans hb)
  replace L := Lib.hid (L.out.trans T.out)
  replace WA := Lib.hid (WA.out.later T.out)
  replace GA := Lib.hid (GA.out.later T.out)
  have AT0 := Lib.hid (hx)
  clear hx
  clear T hb
  go_wp2_with fail
  refine (HI.out _ _ _ AT0.out.at_).mono ?_; rintro r w14 ⟨⟨har, rfl, hx⟩, hb⟩
  have hs_w14 := hb.size
  have T := Lib.hid ((Later.rfl' _).trans hb)
  replace L := Lib.hid (L.out.trans T.out)
  replace WA := Lib.hid (WA.out.later T.out)
  replace GA := Lib.hid (GA.out.later T.out)
  replace AT0 := Lib.hid (AT0.out.later T.out)
  have HA := Lib.hid (hx)
  clear hx
  clear T hb
  clear AT0
  go_wp2_with fail
  refine (HEQ.out _ _ _ _ _ HA.out.at_ WA.out.at_).mono ?_; rintro r w15 ⟨rfl, hb⟩
  have hs_w15 := hb.size
  have T := Lib.hid ((Later.rfl' _).trans hb)
  replace L := Lib.hid (L.out.trans T.out)
  replace WA := Lib.hid (WA.out.later T.out)
  replace GA := Lib.hid (GA.out.later T.out)
  replace HA := Lib.hid (HA.out.later T.out)
  clear T hb
  go_wp2_with fail
  refine (HH.out _ _ _ GA.out.at_).mono ?_; rintro r w16 ⟨rfl, hb⟩
  have hs_w16 := hb.size
  have T := Lib.hid ((Later.rfl' _).trans hb)
  replace L := Lib.hid (L.out.trans T.out)
  replace WA := Lib.hid (WA.out.later T.out)
  replace GA := Lib.hid (GA.out.later T.out)
  replace HA := Lib.hid (HA.out.later T.out)
  clear T hb
  go_wp2_with fail
  go_ret
  exact ⟨rfl, L.out⟩
end Go.Proofs.Ythjabeoafdohjaa
