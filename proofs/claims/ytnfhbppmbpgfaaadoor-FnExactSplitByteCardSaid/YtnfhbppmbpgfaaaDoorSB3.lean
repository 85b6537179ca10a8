/-
  The law FnExactSplitByte: its walk.
-/
import Derived.Test.YtnfhbppmbpgfaaaDoorSB2
namespace Go.Proofs.YtnfhbppmbpgfaaaDoor
open Go.ChangeShapes Go.WideShapes Go.ChangeAt Go.RowKit
set_option linter.unusedVariables false
set_option linter.unusedSimpArgs false
set_option maxRecDepth 100000

theorem cntS_eq (l : List ByteArray) : Dt.cnts (l.flatMap encS) = l.length := by
  induction l with
  | nil => rfl
  | cons a l ih =>
    rw [List.flatMap_cons, cnts_append, ih, List.length_cons]
    simp [encS, Dt.cnts, Dt.cnt]
    omega
set_option maxHeartbeats 4000000 in
theorem walkS_SplitByte (s : ByteArray) (c : UInt8) (w : World)  (hsm : s.size ≤ 1048576) (hmax : MaxAt w) : Calls Tryd.prog 7 #[.string s, .int .u8 (c.toNat : Int)] w fun r w' => r = .returned (.bool true) ∧ Later w w' := by
  have CS := fun W => specSplitByte s c hsm W
  have CI := fun W (hW : Later w W) => implSplitByte s c hsm W (hmax.later hW)
  have hbd : 1 + Dt.cnts ((spB c s).flatMap encS) ≤ 1099511627776 := by
    have := (sp_small c s).1; rw [cntS_eq]; omega
  obtain ⟨K, hK⟩ : ∃ K, K = spB c s := ⟨_, rfl⟩
  rw [← hK] at hbd
  simp only [← hK] at CS CI
  have CM := fun W S v (h : Own W S (.sl 1 K.length (K.flatMap encS)) v) => marksQ_at (markStrs K) 1 (show (1 : Int) = ((1 : Nat) : Int) by simp) hbd h
  have CH := fun W S v h => heldStrs K 1 1 W S v (by simp) (flat_len encS_len K) hbd h
  obtain ⟨N, hN⟩ : ∃ N, N = 1 + Dt.cnts (K.flatMap encS) := ⟨_, rfl⟩
  simp only [← hN] at CM CH
  have hNp : (0 : Int) ≤ (N : Int) := by omega
  have HS := Lib.hid CS; have HI := Lib.hid CI; have HM := Lib.hid CM; have HH := Lib.hid CH
  have HEQ := Lib.hid (eqStrs K)
  clear CS CI CM CH hbd hK hN    
  go_enter Tryd.func7, Tryd.ntmps7
  have L := Lib.hid (Later.rfl' w)
  go_wp2_with fail
  refine (HS.out _ ).mono ?_; rintro r w1 ⟨⟨war, rfl, hx⟩, hb⟩
  have hs_w1 := hb.size
  have T := Lib.hid ((Later.rfl' _).trans hb)
  replace L := Lib.hid (L.out.trans T.out)
  have WA := Lib.hid (hx)
  clear hx
  clear T hb
  go_wp2_with fail
  refine (HI.out _ L.out).mono ?_; rintro r w2 ⟨⟨gr, rfl, hx⟩, hb⟩
  have hs_w2 := hb.size
  have T := Lib.hid ((Later.rfl' _).trans hb)
  replace L := Lib.hid (L.out.trans T.out)
  replace WA := Lib.hid (WA.out.later T.out)
  have GA := Lib.hid (hx)
  clear hx
  clear T hb
  go_wp2_with fail
  refine (HEQ.out _ _ _ _ _ GA.out.at_ WA.out.at_).mono ?_; rintro r w3 ⟨rfl, hb⟩
  have hs_w3 := hb.size
  have T := Lib.hid ((Later.rfl' _).trans hb)
  replace L := Lib.hid (L.out.trans T.out)
  replace WA := Lib.hid (WA.out.later T.out)
  replace GA := Lib.hid (GA.out.later T.out)
  clear T hb
  go_wp2_with fail
  refine (HM.out _ _ _ GA.out).mono ?_; rintro r w4 ⟨rfl, ho, hc⟩
  replace L := Lib.hid (Chg.later L.out hc (fun b hb => by omega))
  replace WA := Lib.hid (WA.out.chg hc (fun b h1 h2 => by omega))
  replace GA := Lib.hid ho
  have hs_w4 := hc.size
  clear ho hc
  go_wp2_with fail
  refine (HH.out _ _ _ GA.out.at_).mono ?_; rintro r w5 ⟨rfl, hb⟩
  have hs_w5 := hb.size
  have T := Lib.hid ((Later.rfl' _).trans hb)
  replace L := Lib.hid (L.out.trans T.out)
  replace WA := Lib.hid (WA.out.later T.out)
  replace GA := Lib.hid (GA.out.later T.out)
  clear T hb
  go_wp2_with fail
  refine (HI.out _ L.out).mono ?_; rintro r w6 ⟨⟨har, rfl, hx⟩, hb⟩
  have hs_w6 := hb.size
  have T := Lib.hid ((Later.rfl' _).trans hb)
  replace L := Lib.hid (L.out.trans T.out)
  replace WA := Lib.hid (WA.out.later T.out)
  replace GA := Lib.hid (GA.out.later T.out)
  have HA := Lib.hid (hx)
  clear hx
  clear T hb
  go_wp2_with fail
  refine (HEQ.out _ _ _ _ _ HA.out.at_ WA.out.at_).mono ?_; rintro r w7 ⟨rfl, hb⟩
  have hs_w7 := hb.size
  have T := Lib.hid ((Later.rfl' _).trans hb)
  replace L := Lib.hid (L.out.trans T.out)
  replace WA := Lib.hid (WA.out.later T.out)
  replace GA := Lib.hid (GA.out.later T.out)
  replace HA := Lib.hid (HA.out.later T.out)
  clear T hb
  go_wp2_with fail
  refine (HH.out _ _ _ GA.out.at_).mono ?_; rintro r w8 ⟨rfl, hb⟩
  have hs_w8 := hb.size
  have T := Lib.hid ((Later.rfl' _).trans hb)
  replace L := Lib.hid (L.out.trans T.out)
  replace WA := Lib.hid (WA.out.later T.out)
  replace GA := Lib.hid (GA.out.later T.out)
  replace HA := Lib.hid (HA.out.later T.out)
  clear T hb
  go_wp2_with fail
  go_ret
  exact ⟨rfl, L.out⟩
theorem walk_FnExactSplitByte (s : ByteArray) (b : Int) (w : World) (hs : s.size ≤ maxLen) (hb : Between8 b) (hmax : MaxAt w) : Calls Tryd.prog 7 #[.string s, .int .u8 b] w fun r w' => r = .returned (.bool true) ∧ Later w w' := by
  by_cases hbig : 1048576 < s.size
  · clear hmax hb
    go_enter Tryd.func7, Tryd.ntmps7
    go_wp2_with fail
    go_ret
    exact ⟨rfl, Later.rfl' _⟩
  · obtain ⟨c, rfl⟩ : ∃ c : UInt8, b = (c.toNat : Int) := by
      unfold Between8 at hb
      refine ⟨UInt8.ofNat b.toNat, ?_⟩
      have : (UInt8.ofNat b.toNat).toNat = b.toNat := by
        rw [UInt8.toNat_ofNat']
        omega
      omega
    exact walkS_SplitByte s c w (by omega) hmax
end Go.Proofs.YtnfhbppmbpgfaaaDoor
