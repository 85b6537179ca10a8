/-
  CheckedNumber; the laws on functions of numbers and texts that answer a value: their walks.
-/
import Derived.Test.YtfdfhfdhkdldlaaV7
namespace Go.Proofs.Ytfdfhfdhkdldlaa
open Go.ChangeShapes Go.WideShapes Go.ChangeAt Go.RowKit
set_option linter.unusedVariables false
set_option linter.unusedSimpArgs false

/-- An integer that is a number of the program's. -/
def numB (n : Int) : Bool := decide (-1000000000 ≤ n) && decide (n ≤ 1000000000)

theorem specNum (n : Int) (W : World) : Calls Try.prog 62 #[.int .i64 n] W fun r w' => r = .returned (.bool (numB n)) ∧ W = w' := by
  by_cases h1 : -1000000000 ≤ n
  · by_cases h2 : n ≤ 1000000000
    · have HV : Hid (numB n = true) := by unfold Hid numB; simp [h1, h2]
      go_enter Try.func62, Try.ntmps62
      go_wp2
      go_ret
      exact ⟨ret_bool (by first | exact HV.out.symm | (rw [HV.out]; simp; omega)), rfl⟩
    · have HV : Hid (numB n = false) := by unfold Hid numB; simp [h1, h2]
      have h2' : 1000000000 < n := by omega
      clear h2
      go_enter Try.func62, Try.ntmps62
      go_wp2
      go_ret
      exact ⟨ret_bool (by first | exact HV.out.symm | (rw [HV.out]; simp; omega)), rfl⟩
  · have HV : Hid (numB n = false) := by unfold Hid numB; simp [h1]
    have h1' : n < -1000000000 := by omega
    clear h1
    go_enter Try.func62, Try.ntmps62
    go_wp2
    go_ret
    exact ⟨ret_bool (by first | exact HV.out.symm | (rw [HV.out]; simp; omega)), rfl⟩

/-- A number, or the error of its range. -/
theorem specCheckedNumber (n : Int) (W : World) : Calls Try.prog 38 #[.int .i64 n] W fun r w' => r = .returned (leafA (if numB n then 1 else 6) (if numB n then n else 5) 0 ⟨#[]⟩) ∧ Later W w' := by
  have C := fun W => specNum n W
  cases hq : numB n with
  | true =>
    rw [hq] at C
    have HC := Lib.hid C
    clear C hq
    go_enter Try.func38, Try.ntmps38
    go_wp2_with fail
    refine (HC.out _).mono ?_; rintro e w1 ⟨rfl, rfl⟩
    go_wp2_with fail
    refine (specNumberValue _ _).mono ?_; rintro e w1 ⟨rfl, hb1⟩
    unfold leafA
    have B := (box_alloc W _ _).later hb1
    have L := Lib.hid (((Later.rfl' W).alloc _).trans hb1)
    clear hb1
    have b0 := B.cell (j := 0) rfl
    have f0 := B.free 0
    have b1 := B.cell (j := 1) rfl
    have f1 := B.free 1
    have b2 := B.cell (j := 2) rfl
    have f2 := B.free 2
    have b3 := B.cell (j := 3) rfl
    have f3 := B.free 3
    have b4 := B.cell (j := 4) rfl
    have f4 := B.free 4
    have b5 := B.cell (j := 5) rfl
    have f5 := B.free 5
    have b6 := B.cell (j := 6) rfl
    have f6 := B.free 6
    clear B
    go_wp2_with fail
    exact bodyPost_ret (v := leafA 1 n 0 ⟨#[]⟩) (by simp [results, Try.results38, go_sem, leafA, b0, b1, b2, b3, b4, b5, b6]) rfl ⟨rfl, later_setFrom (Nat.le_refl _) [.int .i64 1, .int .i64 n, .int .i64 0, .string ⟨#[]⟩, .slice none 0 0, .slice none 0 0, .slice none 0 0] _ 0 L.out⟩
  | false =>
    rw [hq] at C
    have HC := Lib.hid C
    clear C hq
    go_enter Try.func38, Try.ntmps38
    go_wp2_with fail
    refine (HC.out _).mono ?_; rintro e w1 ⟨rfl, rfl⟩
    go_wp2_with fail
    refine (specErrorValue _ _).mono ?_; rintro e w1 ⟨rfl, hb1⟩
    unfold leafA
    have B := (box_alloc W _ _).later hb1
    have L := Lib.hid (((Later.rfl' W).alloc _).trans hb1)
    clear hb1
    have b0 := B.cell (j := 0) rfl
    have f0 := B.free 0
    have b1 := B.cell (j := 1) rfl
    have f1 := B.free 1
    have b2 := B.cell (j := 2) rfl
    have f2 := B.free 2
    have b3 := B.cell (j := 3) rfl
    have f3 := B.free 3
    have b4 := B.cell (j := 4) rfl
    have f4 := B.free 4
    have b5 := B.cell (j := 5) rfl
    have f5 := B.free 5
    have b6 := B.cell (j := 6) rfl
    have f6 := B.free 6
    clear B
    go_wp2_with fail
    exact bodyPost_ret (v := leafA 6 5 0 ⟨#[]⟩) (by simp [results, Try.results38, go_sem, leafA, b0, b1, b2, b3, b4, b5, b6]) rfl ⟨rfl, later_setFrom (Nat.le_refl _) [.int .i64 6, .int .i64 5, .int .i64 0, .string ⟨#[]⟩, .slice none 0 0, .slice none 0 0, .slice none 0 0] _ 0 L.out⟩

theorem implNum (n : Int) (W : World) : Calls Try.prog 63 #[.int .i64 n] W fun r w' => r = .returned (.bool (numB n)) ∧ W = w' := by
  by_cases h1 : -1000000000 ≤ n
  · by_cases h2 : n ≤ 1000000000
    · have HV : Hid (numB n = true) := by unfold Hid numB; simp [h1, h2]
      go_enter Try.func63, Try.ntmps63
      go_wp2
      go_ret
      exact ⟨ret_bool (by first | exact HV.out.symm | (rw [HV.out]; simp; omega)), rfl⟩
    · have HV : Hid (numB n = false) := by unfold Hid numB; simp [h1, h2]
      have h2' : 1000000000 < n := by omega
      clear h2
      go_enter Try.func63, Try.ntmps63
      go_wp2
      go_ret
      exact ⟨ret_bool (by first | exact HV.out.symm | (rw [HV.out]; simp; omega)), rfl⟩
  · have HV : Hid (numB n = false) := by unfold Hid numB; simp [h1]
    have h1' : n < -1000000000 := by omega
    clear h1
    go_enter Try.func63, Try.ntmps63
    go_wp2
    go_ret
    exact ⟨ret_bool (by first | exact HV.out.symm | (rw [HV.out]; simp; omega)), rfl⟩

/-- A number, or the error of its range. -/
theorem implCheckedNumber (n : Int) (W : World) : Calls Try.prog 39 #[.int .i64 n] W fun r w' => r = .returned (leafA (if numB n then 1 else 6) (if numB n then n else 5) 0 ⟨#[]⟩) ∧ Later W w' := by
  have C := fun W => implNum n W
  cases hq : numB n with
  | true =>
    rw [hq] at C
    have HC := Lib.hid C
    clear C hq
    go_enter Try.func39, Try.ntmps39
    go_wp2_with fail
    refine (HC.out _).mono ?_; rintro e w1 ⟨rfl, rfl⟩
    go_wp2_with fail
    refine (implNumberValue _ _).mono ?_; rintro e w1 ⟨rfl, hb1⟩
    unfold leafA
    have B := (box_alloc W _ _).later hb1
    have L := Lib.hid (((Later.rfl' W).alloc _).trans hb1)
    clear hb1
    have b0 := B.cell (j := 0) rfl
    have f0 := B.free 0
    have b1 := B.cell (j := 1) rfl
    have f1 := B.free 1
    have b2 := B.cell (j := 2) rfl
    have f2 := B.free 2
    have b3 := B.cell (j := 3) rfl
    have f3 := B.free 3
    have b4 := B.cell (j := 4) rfl
    have f4 := B.free 4
    have b5 := B.cell (j := 5) rfl
    have f5 := B.free 5
    have b6 := B.cell (j := 6) rfl
    have f6 := B.free 6
    clear B
    go_wp2_with fail
    exact bodyPost_ret (v := leafA 1 n 0 ⟨#[]⟩) (by simp [results, Try.results39, go_sem, leafA, b0, b1, b2, b3, b4, b5, b6]) rfl ⟨rfl, later_setFrom (Nat.le_refl _) [.int .i64 1, .int .i64 n, .int .i64 0, .string ⟨#[]⟩, .slice none 0 0, .slice none 0 0, .slice none 0 0] _ 0 L.out⟩
  | false =>
    rw [hq] at C
    have HC := Lib.hid C
    clear C hq
    go_enter Try.func39, Try.ntmps39
    go_wp2_with fail
    refine (HC.out _).mono ?_; rintro e w1 ⟨rfl, rfl⟩
    go_wp2_with fail
    refine (implErrorValue _ _).mono ?_; rintro e w1 ⟨rfl, hb1⟩
    unfold leafA
    have B := (box_alloc W _ _).later hb1
    have L := Lib.hid (((Later.rfl' W).alloc _).trans hb1)
    clear hb1
    have b0 := B.cell (j := 0) rfl
    have f0 := B.free 0
    have b1 := B.cell (j := 1) rfl
    have f1 := B.free 1
    have b2 := B.cell (j := 2) rfl
    have f2 := B.free 2
    have b3 := B.cell (j := 3) rfl
    have f3 := B.free 3
    have b4 := B.cell (j := 4) rfl
    have f4 := B.free 4
    have b5 := B.cell (j := 5) rfl
    have f5 := B.free 5
    have b6 := B.cell (j := 6) rfl
    have f6 := B.free 6
    clear B
    go_wp2_with fail
    exact bodyPost_ret (v := leafA 6 5 0 ⟨#[]⟩) (by simp [results, Try.results39, go_sem, leafA, b0, b1, b2, b3, b4, b5, b6]) rfl ⟨rfl, later_setFrom (Nat.le_refl _) [.int .i64 6, .int .i64 5, .int .i64 0, .string ⟨#[]⟩, .slice none 0 0, .slice none 0 0, .slice none 0 0] _ 0 L.out⟩

set_option maxHeartbeats 2000000 in
theorem walk_FnExactNumberValue (n : Int) (w : World) (_ : Between64 n) : Calls Try.prog 5 #[.int .i64 n] w fun r w' => r = .returned (.bool true) ∧ Later w w' := by
  have hok : ∀ (W w' : World) r, r = .returned (leafA 1 n 0 ⟨#[]⟩) → CopyV W w' (leafD 1 n 0 ⟨#[]⟩) r := fun W w' r hr => copy_leaf hr (by unfold Between64; omega) ‹Between64 n› (by unfold Between64; omega) (by decide)
  have CS : ∀ W, Calls Try.prog 24 #[.int .i64 n] W fun r w' => CopyV W w' (leafD 1 n 0 ⟨#[]⟩) r ∧ Later W w' := fun W => (specNumberValue n W).mono fun _ _ h => ⟨hok _ _ _ h.1, h.2⟩
  have CI : ∀ W, Calls Try.prog 25 #[.int .i64 n] W fun r w' => CopyV W w' (leafD 1 n 0 ⟨#[]⟩) r ∧ Later W w' := fun W => (implNumberValue n W).mono fun _ _ h => ⟨hok _ _ _ h.1, h.2⟩
  have htop := topN_le (leafD 1 n 0 ⟨#[]⟩)
  rw [cost_leaf] at htop
  have hsz : (⟨#[]⟩ : ByteArray).size ≤ 1048576 := by first | omega | decide
  obtain ⟨d, hd⟩ : ∃ d, d = leafD 1 n 0 ⟨#[]⟩ := ⟨_, rfl⟩
  rw [← hd] at htop
  simp only [← hd] at CS CI
  have CM := fun W S cs h => markValue d 1 1 rfl W S cs (by omega) h
  have CH := fun W S cs h => heldValue d 1 1 rfl W S cs (by omega) h
  obtain ⟨N, hN⟩ : ∃ N, N = 1 + d.topN := ⟨_, rfl⟩
  simp only [← hN] at CM CH
  have hN0 : (0 : Int) ≤ (N : Int) := by omega
  have HS := Lib.hid CS; have HI := Lib.hid CI; have HM := Lib.hid CM; have HH := Lib.hid CH
  have HEQ := Lib.hid (eqValue d)
  clear CS CI CM CH htop hsz hd hN hok
  go_enter Try.func5, Try.ntmps5
  go_wp2_with fail
  refine (HS.out _).mono ?_; rintro r w1 ⟨⟨p0, p1, p2, p3, pA1, pn1, pc1, pA2, pn2, pc2, pA3, pn3, pc3, rfl, hx⟩, hb⟩
  have L := Lib.hid (hb)
  have AW := Lib.hid (hx.ats)
  have hs1 := hb.size
  clear hb hx
  go_wp2_with fail
  refine (HI.out _).mono ?_; rintro r w2 ⟨⟨q0, q1, q2, q3, qA1, qn1, qc1, qA2, qn2, qc2, qA3, qn3, qc3, rfl, hx⟩, hb⟩
  have T := Lib.hid (((Later.rfl' _).alloc _).trans hb)
  replace L := Lib.hid (L.out.trans T.out)
  replace AW := Lib.hid (AW.out.later T.out)
  have BW := Lib.hid ((box_alloc w1 _ _).later hb)
  have hs2 := hb.size
  simp only [World.size_alloc] at hs2 hx
  have OG := Lib.hid (hx)
  clear T hb hx
  have BW_z := BW.out.lt
  have BW_0 := BW.out.cell (j := 0) rfl
  have BW_1 := BW.out.cell (j := 1) rfl
  have BW_2 := BW.out.cell (j := 2) rfl
  have BW_3 := BW.out.cell (j := 3) rfl
  have BW_4 := BW.out.cell (j := 4) rfl
  have BW_5 := BW.out.cell (j := 5) rfl
  have BW_6 := BW.out.cell (j := 6) rfl
  go_wp2_with fail
  refine (HEQ.out _ _ _ _ _ (OG.out.ats.later ((Later.rfl' _).alloc _)) (AW.out.later ((Later.rfl' _).alloc _))).mono ?_; rintro r w3 ⟨rfl, hb⟩
  clear BW_z BW_0 BW_1 BW_2 BW_3 BW_4 BW_5 BW_6
  have T := Lib.hid (((Later.rfl' _).alloc _).trans hb)
  replace L := Lib.hid (L.out.trans T.out)
  replace AW := Lib.hid (AW.out.later T.out)
  replace BW := Lib.hid (BW.out.later T.out)
  replace OG := Lib.hid (OG.out.later T.out)
  have BG := Lib.hid ((box_alloc w2 _ _).later hb)
  have hs3 := hb.size
  simp only [World.size_alloc] at hs3
  clear T hb
  have BG_z := BG.out.lt
  have BG_0 := BG.out.cell (j := 0) rfl
  have BG_1 := BG.out.cell (j := 1) rfl
  have BG_2 := BG.out.cell (j := 2) rfl
  have BG_3 := BG.out.cell (j := 3) rfl
  have BG_4 := BG.out.cell (j := 4) rfl
  have BG_5 := BG.out.cell (j := 5) rfl
  have BG_6 := BG.out.cell (j := 6) rfl
  go_wp2_with fail
  refine (HM.out _ _ _ OG.out).mono ?_; rintro r w4 ⟨rfl, ho, hc⟩
  clear BG_z BG_0 BG_1 BG_2 BG_3 BG_4 BG_5 BG_6
  replace L := Lib.hid (Chg.later L.out hc (fun b hb => by omega))
  replace AW := Lib.hid (AW.out.chg hc (fun b h1 h2 => by omega))
  replace BW := Lib.hid (BW.out.chg hc (by omega))
  replace BG := Lib.hid (BG.out.chg hc (by omega))
  replace OG := Lib.hid ho
  have hs4 := hc.size
  clear ho hc
  have BG_z := BG.out.lt
  have BG_0 := BG.out.cell (j := 0) rfl
  have BG_1 := BG.out.cell (j := 1) rfl
  have BG_2 := BG.out.cell (j := 2) rfl
  have BG_3 := BG.out.cell (j := 3) rfl
  have BG_4 := BG.out.cell (j := 4) rfl
  have BG_5 := BG.out.cell (j := 5) rfl
  have BG_6 := BG.out.cell (j := 6) rfl
  go_wp2_with fail
  refine (HH.out _ _ _ OG.out.ats).mono ?_; rintro r w5 ⟨rfl, hb⟩
  clear BG_z BG_0 BG_1 BG_2 BG_3 BG_4 BG_5 BG_6
  have T := Lib.hid ((Later.rfl' _).trans hb); clear hb
  replace L := Lib.hid (L.out.trans T.out)
  replace AW := Lib.hid (AW.out.later T.out)
  replace BW := Lib.hid (BW.out.later T.out)
  replace OG := Lib.hid (OG.out.later T.out)
  replace BG := Lib.hid (BG.out.later T.out)
  clear T
  go_wp2_with fail
  refine (HI.out _).mono ?_; rintro r w6 ⟨⟨s0, s1, s2, s3, sA1, sn1, sc1, sA2, sn2, sc2, sA3, sn3, sc3, rfl, hx⟩, hb⟩
  have T := Lib.hid hb
  replace L := Lib.hid (L.out.trans T.out)
  replace AW := Lib.hid (AW.out.later T.out)
  replace BW := Lib.hid (BW.out.later T.out)
  replace OG := Lib.hid (OG.out.later T.out)
  replace BG := Lib.hid (BG.out.later T.out)
  have AH := Lib.hid (hx.ats)
  clear T hb hx
  have BW_z := BW.out.lt
  have BW_0 := BW.out.cell (j := 0) rfl
  have BW_1 := BW.out.cell (j := 1) rfl
  have BW_2 := BW.out.cell (j := 2) rfl
  have BW_3 := BW.out.cell (j := 3) rfl
  have BW_4 := BW.out.cell (j := 4) rfl
  have BW_5 := BW.out.cell (j := 5) rfl
  have BW_6 := BW.out.cell (j := 6) rfl
  go_wp2_with fail
  refine (HEQ.out _ _ _ _ _ (AH.out.later ((Later.rfl' _).alloc _)) (AW.out.later ((Later.rfl' _).alloc _))).mono ?_; rintro r w7 ⟨rfl, hb⟩
  clear BW_z BW_0 BW_1 BW_2 BW_3 BW_4 BW_5 BW_6
  have T := Lib.hid (((Later.rfl' _).alloc _).trans hb)
  replace L := Lib.hid (L.out.trans T.out)
  replace AW := Lib.hid (AW.out.later T.out)
  replace BW := Lib.hid (BW.out.later T.out)
  replace OG := Lib.hid (OG.out.later T.out)
  replace BG := Lib.hid (BG.out.later T.out)
  replace AH := Lib.hid (AH.out.later T.out)
  clear T hb
  have BG_z := BG.out.lt
  have BG_0 := BG.out.cell (j := 0) rfl
  have BG_1 := BG.out.cell (j := 1) rfl
  have BG_2 := BG.out.cell (j := 2) rfl
  have BG_3 := BG.out.cell (j := 3) rfl
  have BG_4 := BG.out.cell (j := 4) rfl
  have BG_5 := BG.out.cell (j := 5) rfl
  have BG_6 := BG.out.cell (j := 6) rfl
  go_wp2_with fail
  refine (HH.out _ _ _ OG.out.ats).mono ?_; rintro r w8 ⟨rfl, hb⟩
  clear BG_z BG_0 BG_1 BG_2 BG_3 BG_4 BG_5 BG_6
  have T := Lib.hid ((Later.rfl' _).trans hb); clear hb
  replace L := Lib.hid (L.out.trans T.out)
  replace AW := Lib.hid (AW.out.later T.out)
  replace BW := Lib.hid (BW.out.later T.out)
  replace OG := Lib.hid (OG.out.later T.out)
  replace BG := Lib.hid (BG.out.later T.out)
  replace AH := Lib.hid (AH.out.later T.out)
  clear T
  go_wp2_with fail
  go_ret
  exact ⟨rfl, L.out⟩
set_option maxHeartbeats 2000000 in
theorem walk_FnExactErrorValue (n : Int) (w : World) (_ : Between64 n) : Calls Try.prog 4 #[.int .i64 n] w fun r w' => r = .returned (.bool true) ∧ Later w w' := by
  have hok : ∀ (W w' : World) r, r = .returned (leafA 6 n 0 ⟨#[]⟩) → CopyV W w' (leafD 6 n 0 ⟨#[]⟩) r := fun W w' r hr => copy_leaf hr (by unfold Between64; omega) ‹Between64 n› (by unfold Between64; omega) (by decide)
  have CS : ∀ W, Calls Try.prog 20 #[.int .i64 n] W fun r w' => CopyV W w' (leafD 6 n 0 ⟨#[]⟩) r ∧ Later W w' := fun W => (specErrorValue n W).mono fun _ _ h => ⟨hok _ _ _ h.1, h.2⟩
  have CI : ∀ W, Calls Try.prog 21 #[.int .i64 n] W fun r w' => CopyV W w' (leafD 6 n 0 ⟨#[]⟩) r ∧ Later W w' := fun W => (implErrorValue n W).mono fun _ _ h => ⟨hok _ _ _ h.1, h.2⟩
  have htop := topN_le (leafD 6 n 0 ⟨#[]⟩)
  rw [cost_leaf] at htop
  have hsz : (⟨#[]⟩ : ByteArray).size ≤ 1048576 := by first | omega | decide
  obtain ⟨d, hd⟩ : ∃ d, d = leafD 6 n 0 ⟨#[]⟩ := ⟨_, rfl⟩
  rw [← hd] at htop
  simp only [← hd] at CS CI
  have CM := fun W S cs h => markValue d 1 1 rfl W S cs (by omega) h
  have CH := fun W S cs h => heldValue d 1 1 rfl W S cs (by omega) h
  obtain ⟨N, hN⟩ : ∃ N, N = 1 + d.topN := ⟨_, rfl⟩
  simp only [← hN] at CM CH
  have hN0 : (0 : Int) ≤ (N : Int) := by omega
  have HS := Lib.hid CS; have HI := Lib.hid CI; have HM := Lib.hid CM; have HH := Lib.hid CH
  have HEQ := Lib.hid (eqValue d)
  clear CS CI CM CH htop hsz hd hN hok
  go_enter Try.func4, Try.ntmps4
  go_wp2_with fail
  refine (HS.out _).mono ?_; rintro r w1 ⟨⟨p0, p1, p2, p3, pA1, pn1, pc1, pA2, pn2, pc2, pA3, pn3, pc3, rfl, hx⟩, hb⟩
  have L := Lib.hid (hb)
  have AW := Lib.hid (hx.ats)
  have hs1 := hb.size
  clear hb hx
  go_wp2_with fail
  refine (HI.out _).mono ?_; rintro r w2 ⟨⟨q0, q1, q2, q3, qA1, qn1, qc1, qA2, qn2, qc2, qA3, qn3, qc3, rfl, hx⟩, hb⟩
  have T := Lib.hid (((Later.rfl' _).alloc _).trans hb)
  replace L := Lib.hid (L.out.trans T.out)
  replace AW := Lib.hid (AW.out.later T.out)
  have BW := Lib.hid ((box_alloc w1 _ _).later hb)
  have hs2 := hb.size
  simp only [World.size_alloc] at hs2 hx
  have OG := Lib.hid (hx)
  clear T hb hx
  have BW_z := BW.out.lt
  have BW_0 := BW.out.cell (j := 0) rfl
  have BW_1 := BW.out.cell (j := 1) rfl
  have BW_2 := BW.out.cell (j := 2) rfl
  have BW_3 := BW.out.cell (j := 3) rfl
  have BW_4 := BW.out.cell (j := 4) rfl
  have BW_5 := BW.out.cell (j := 5) rfl
  have BW_6 := BW.out.cell (j := 6) rfl
  go_wp2_with fail
  refine (HEQ.out _ _ _ _ _ (OG.out.ats.later ((Later.rfl' _).alloc _)) (AW.out.later ((Later.rfl' _).alloc _))).mono ?_; rintro r w3 ⟨rfl, hb⟩
  clear BW_z BW_0 BW_1 BW_2 BW_3 BW_4 BW_5 BW_6
  have T := Lib.hid (((Later.rfl' _).alloc _).trans hb)
  replace L := Lib.hid (L.out.trans T.out)
  replace AW := Lib.hid (AW.out.later T.out)
  replace BW := Lib.hid (BW.out.later T.out)
  replace OG := Lib.hid (OG.out.later T.out)
  have BG := Lib.hid ((box_alloc w2 _ _).later hb)
  have hs3 := hb.size
  simp only [World.size_alloc] at hs3
  clear T hb
  have BG_z := BG.out.lt
  have BG_0 := BG.out.cell (j := 0) rfl
  have BG_1 := BG.out.cell (j := 1) rfl
  have BG_2 := BG.out.cell (j := 2) rfl
  have BG_3 := BG.out.cell (j := 3) rfl
  have BG_4 := BG.out.cell (j := 4) rfl
  have BG_5 := BG.out.cell (j := 5) rfl
  have BG_6 := BG.out.cell (j := 6) rfl
  go_wp2_with fail
  refine (HM.out _ _ _ OG.out).mono ?_; rintro r w4 ⟨rfl, ho, hc⟩
  clear BG_z BG_0 BG_1 BG_2 BG_3 BG_4 BG_5 BG_6
  replace L := Lib.hid (Chg.later L.out hc (fun b hb => by omega))
  replace AW := Lib.hid (AW.out.chg hc (fun b h1 h2 => by omega))
  replace BW := Lib.hid (BW.out.chg hc (by omega))
  replace BG := Lib.hid (BG.out.chg hc (by omega))
  replace OG := Lib.hid ho
  have hs4 := hc.size
  clear ho hc
  have BG_z := BG.out.lt
  have BG_0 := BG.out.cell (j := 0) rfl
  have BG_1 := BG.out.cell (j := 1) rfl
  have BG_2 := BG.out.cell (j := 2) rfl
  have BG_3 := BG.out.cell (j := 3) rfl
  have BG_4 := BG.out.cell (j := 4) rfl
  have BG_5 := BG.out.cell (j := 5) rfl
  have BG_6 := BG.out.cell (j := 6) rfl
  go_wp2_with fail
  refine (HH.out _ _ _ OG.out.ats).mono ?_; rintro r w5 ⟨rfl, hb⟩
  clear BG_z BG_0 BG_1 BG_2 BG_3 BG_4 BG_5 BG_6
  have T := Lib.hid ((Later.rfl' _).trans hb); clear hb
  replace L := Lib.hid (L.out.trans T.out)
  replace AW := Lib.hid (AW.out.later T.out)
  replace BW := Lib.hid (BW.out.later T.out)
  replace OG := Lib.hid (OG.out.later T.out)
  replace BG := Lib.hid (BG.out.later T.out)
  clear T
  go_wp2_with fail
  refine (HI.out _).mono ?_; rintro r w6 ⟨⟨s0, s1, s2, s3, sA1, sn1, sc1, sA2, sn2, sc2, sA3, sn3, sc3, rfl, hx⟩, hb⟩
  have T := Lib.hid hb
  replace L := Lib.hid (L.out.trans T.out)
  replace AW := Lib.hid (AW.out.later T.out)
  replace BW := Lib.hid (BW.out.later T.out)
  replace OG := Lib.hid (OG.out.later T.out)
  replace BG := Lib.hid (BG.out.later T.out)
  have AH := Lib.hid (hx.ats)
  clear T hb hx
  have BW_z := BW.out.lt
  have BW_0 := BW.out.cell (j := 0) rfl
  have BW_1 := BW.out.cell (j := 1) rfl
  have BW_2 := BW.out.cell (j := 2) rfl
  have BW_3 := BW.out.cell (j := 3) rfl
  have BW_4 := BW.out.cell (j := 4) rfl
  have BW_5 := BW.out.cell (j := 5) rfl
  have BW_6 := BW.out.cell (j := 6) rfl
  go_wp2_with fail
  refine (HEQ.out _ _ _ _ _ (AH.out.later ((Later.rfl' _).alloc _)) (AW.out.later ((Later.rfl' _).alloc _))).mono ?_; rintro r w7 ⟨rfl, hb⟩
  clear BW_z BW_0 BW_1 BW_2 BW_3 BW_4 BW_5 BW_6
  have T := Lib.hid (((Later.rfl' _).alloc _).trans hb)
  replace L := Lib.hid (L.out.trans T.out)
  replace AW := Lib.hid (AW.out.later T.out)
  replace BW := Lib.hid (BW.out.later T.out)
  replace OG := Lib.hid (OG.out.later T.out)
  replace BG := Lib.hid (BG.out.later T.out)
  replace AH := Lib.hid (AH.out.later T.out)
  clear T hb
  have BG_z := BG.out.lt
  have BG_0 := BG.out.cell (j := 0) rfl
  have BG_1 := BG.out.cell (j := 1) rfl
  have BG_2 := BG.out.cell (j := 2) rfl
  have BG_3 := BG.out.cell (j := 3) rfl
  have BG_4 := BG.out.cell (j := 4) rfl
  have BG_5 := BG.out.cell (j := 5) rfl
  have BG_6 := BG.out.cell (j := 6) rfl
  go_wp2_with fail
  refine (HH.out _ _ _ OG.out.ats).mono ?_; rintro r w8 ⟨rfl, hb⟩
  clear BG_z BG_0 BG_1 BG_2 BG_3 BG_4 BG_5 BG_6
  have T := Lib.hid ((Later.rfl' _).trans hb); clear hb
  replace L := Lib.hid (L.out.trans T.out)
  replace AW := Lib.hid (AW.out.later T.out)
  replace BW := Lib.hid (BW.out.later T.out)
  replace OG := Lib.hid (OG.out.later T.out)
  replace BG := Lib.hid (BG.out.later T.out)
  replace AH := Lib.hid (AH.out.later T.out)
  clear T
  go_wp2_with fail
  go_ret
  exact ⟨rfl, L.out⟩
set_option maxHeartbeats 2000000 in
theorem walk_FnExactStreamValue (n s : Int) (w : World) (hn : Between64 n) (hs : Between64 s) : Calls Try.prog 7 #[.int .i64 n, .int .i64 s] w fun r w' => r = .returned (.bool true) ∧ Later w w' := by
  have hok : ∀ (W w' : World) r, r = .returned (leafA 4 n s ⟨#[]⟩) → CopyV W w' (leafD 4 n s ⟨#[]⟩) r := fun W w' r hr => copy_leaf hr (by unfold Between64; omega) hn hs (by decide)
  have CS : ∀ W, Calls Try.prog 28 #[.int .i64 n, .int .i64 s] W fun r w' => CopyV W w' (leafD 4 n s ⟨#[]⟩) r ∧ Later W w' := fun W => (specStreamValue n s W).mono fun _ _ h => ⟨hok _ _ _ h.1, h.2⟩
  have CI : ∀ W, Calls Try.prog 29 #[.int .i64 n, .int .i64 s] W fun r w' => CopyV W w' (leafD 4 n s ⟨#[]⟩) r ∧ Later W w' := fun W => (implStreamValue n s W).mono fun _ _ h => ⟨hok _ _ _ h.1, h.2⟩
  have htop := topN_le (leafD 4 n s ⟨#[]⟩)
  rw [cost_leaf] at htop
  have hsz : (⟨#[]⟩ : ByteArray).size ≤ 1048576 := by first | omega | decide
  obtain ⟨d, hd⟩ : ∃ d, d = leafD 4 n s ⟨#[]⟩ := ⟨_, rfl⟩
  rw [← hd] at htop
  simp only [← hd] at CS CI
  have CM := fun W S cs h => markValue d 1 1 rfl W S cs (by omega) h
  have CH := fun W S cs h => heldValue d 1 1 rfl W S cs (by omega) h
  obtain ⟨N, hN⟩ : ∃ N, N = 1 + d.topN := ⟨_, rfl⟩
  simp only [← hN] at CM CH
  have hN0 : (0 : Int) ≤ (N : Int) := by omega
  have HS := Lib.hid CS; have HI := Lib.hid CI; have HM := Lib.hid CM; have HH := Lib.hid CH
  have HEQ := Lib.hid (eqValue d)
  clear CS CI CM CH htop hsz hd hN hok
  go_enter Try.func7, Try.ntmps7
  go_wp2_with fail
  refine (HS.out _).mono ?_; rintro r w1 ⟨⟨p0, p1, p2, p3, pA1, pn1, pc1, pA2, pn2, pc2, pA3, pn3, pc3, rfl, hx⟩, hb⟩
  have L := Lib.hid (hb)
  have AW := Lib.hid (hx.ats)
  have hs1 := hb.size
  clear hb hx
  go_wp2_with fail
  refine (HI.out _).mono ?_; rintro r w2 ⟨⟨q0, q1, q2, q3, qA1, qn1, qc1, qA2, qn2, qc2, qA3, qn3, qc3, rfl, hx⟩, hb⟩
  have T := Lib.hid (((Later.rfl' _).alloc _).trans hb)
  replace L := Lib.hid (L.out.trans T.out)
  replace AW := Lib.hid (AW.out.later T.out)
  have BW := Lib.hid ((box_alloc w1 _ _).later hb)
  have hs2 := hb.size
  simp only [World.size_alloc] at hs2 hx
  have OG := Lib.hid (hx)
  clear T hb hx
  have BW_z := BW.out.lt
  have BW_0 := BW.out.cell (j := 0) rfl
  have BW_1 := BW.out.cell (j := 1) rfl
  have BW_2 := BW.out.cell (j := 2) rfl
  have BW_3 := BW.out.cell (j := 3) rfl
  have BW_4 := BW.out.cell (j := 4) rfl
  have BW_5 := BW.out.cell (j := 5) rfl
  have BW_6 := BW.out.cell (j := 6) rfl
  go_wp2_with fail
  refine (HEQ.out _ _ _ _ _ (OG.out.ats.later ((Later.rfl' _).alloc _)) (AW.out.later ((Later.rfl' _).alloc _))).mono ?_; rintro r w3 ⟨rfl, hb⟩
  clear BW_z BW_0 BW_1 BW_2 BW_3 BW_4 BW_5 BW_6
  have T := Lib.hid (((Later.rfl' _).alloc _).trans hb)
  replace L := Lib.hid (L.out.trans T.out)
  replace AW := Lib.hid (AW.out.later T.out)
  replace BW := Lib.hid (BW.out.later T.out)
  replace OG := Lib.hid (OG.out.later T.out)
  have BG := Lib.hid ((box_alloc w2 _ _).later hb)
  have hs3 := hb.size
  simp only [World.size_alloc] at hs3
  clear T hb
  have BG_z := BG.out.lt
  have BG_0 := BG.out.cell (j := 0) rfl
  have BG_1 := BG.out.cell (j := 1) rfl
  have BG_2 := BG.out.cell (j := 2) rfl
  have BG_3 := BG.out.cell (j := 3) rfl
  have BG_4 := BG.out.cell (j := 4) rfl
  have BG_5 := BG.out.cell (j := 5) rfl
  have BG_6 := BG.out.cell (j := 6) rfl
  go_wp2_with fail
  refine (HM.out _ _ _ OG.out).mono ?_; rintro r w4 ⟨rfl, ho, hc⟩
  clear BG_z BG_0 BG_1 BG_2 BG_3 BG_4 BG_5 BG_6
  replace L := Lib.hid (Chg.later L.out hc (fun b hb => by omega))
  replace AW := Lib.hid (AW.out.chg hc (fun b h1 h2 => by omega))
  replace BW := Lib.hid (BW.out.chg hc (by omega))
  replace BG := Lib.hid (BG.out.chg hc (by omega))
  replace OG := Lib.hid ho
  have hs4 := hc.size
  clear ho hc
  have BG_z := BG.out.lt
  have BG_0 := BG.out.cell (j := 0) rfl
  have BG_1 := BG.out.cell (j := 1) rfl
  have BG_2 := BG.out.cell (j := 2) rfl
  have BG_3 := BG.out.cell (j := 3) rfl
  have BG_4 := BG.out.cell (j := 4) rfl
  have BG_5 := BG.out.cell (j := 5) rfl
  have BG_6 := BG.out.cell (j := 6) rfl
  go_wp2_with fail
  refine (HH.out _ _ _ OG.out.ats).mono ?_; rintro r w5 ⟨rfl, hb⟩
  clear BG_z BG_0 BG_1 BG_2 BG_3 BG_4 BG_5 BG_6
  have T := Lib.hid ((Later.rfl' _).trans hb); clear hb
  replace L := Lib.hid (L.out.trans T.out)
  replace AW := Lib.hid (AW.out.later T.out)
  replace BW := Lib.hid (BW.out.later T.out)
  replace OG := Lib.hid (OG.out.later T.out)
  replace BG := Lib.hid (BG.out.later T.out)
  clear T
  go_wp2_with fail
  refine (HI.out _).mono ?_; rintro r w6 ⟨⟨s0, s1, s2, s3, sA1, sn1, sc1, sA2, sn2, sc2, sA3, sn3, sc3, rfl, hx⟩, hb⟩
  have T := Lib.hid hb
  replace L := Lib.hid (L.out.trans T.out)
  replace AW := Lib.hid (AW.out.later T.out)
  replace BW := Lib.hid (BW.out.later T.out)
  replace OG := Lib.hid (OG.out.later T.out)
  replace BG := Lib.hid (BG.out.later T.out)
  have AH := Lib.hid (hx.ats)
  clear T hb hx
  have BW_z := BW.out.lt
  have BW_0 := BW.out.cell (j := 0) rfl
  have BW_1 := BW.out.cell (j := 1) rfl
  have BW_2 := BW.out.cell (j := 2) rfl
  have BW_3 := BW.out.cell (j := 3) rfl
  have BW_4 := BW.out.cell (j := 4) rfl
  have BW_5 := BW.out.cell (j := 5) rfl
  have BW_6 := BW.out.cell (j := 6) rfl
  go_wp2_with fail
  refine (HEQ.out _ _ _ _ _ (AH.out.later ((Later.rfl' _).alloc _)) (AW.out.later ((Later.rfl' _).alloc _))).mono ?_; rintro r w7 ⟨rfl, hb⟩
  clear BW_z BW_0 BW_1 BW_2 BW_3 BW_4 BW_5 BW_6
  have T := Lib.hid (((Later.rfl' _).alloc _).trans hb)
  replace L := Lib.hid (L.out.trans T.out)
  replace AW := Lib.hid (AW.out.later T.out)
  replace BW := Lib.hid (BW.out.later T.out)
  replace OG := Lib.hid (OG.out.later T.out)
  replace BG := Lib.hid (BG.out.later T.out)
  replace AH := Lib.hid (AH.out.later T.out)
  clear T hb
  have BG_z := BG.out.lt
  have BG_0 := BG.out.cell (j := 0) rfl
  have BG_1 := BG.out.cell (j := 1) rfl
  have BG_2 := BG.out.cell (j := 2) rfl
  have BG_3 := BG.out.cell (j := 3) rfl
  have BG_4 := BG.out.cell (j := 4) rfl
  have BG_5 := BG.out.cell (j := 5) rfl
  have BG_6 := BG.out.cell (j := 6) rfl
  go_wp2_with fail
  refine (HH.out _ _ _ OG.out.ats).mono ?_; rintro r w8 ⟨rfl, hb⟩
  clear BG_z BG_0 BG_1 BG_2 BG_3 BG_4 BG_5 BG_6
  have T := Lib.hid ((Later.rfl' _).trans hb); clear hb
  replace L := Lib.hid (L.out.trans T.out)
  replace AW := Lib.hid (AW.out.later T.out)
  replace BW := Lib.hid (BW.out.later T.out)
  replace OG := Lib.hid (OG.out.later T.out)
  replace BG := Lib.hid (BG.out.later T.out)
  replace AH := Lib.hid (AH.out.later T.out)
  clear T
  go_wp2_with fail
  go_ret
  exact ⟨rfl, L.out⟩
set_option maxHeartbeats 2000000 in
theorem walk_FnExactTextValue (t : ByteArray) (w : World) (ht : t.size ≤ maxLen) : Calls Try.prog 6 #[.string t] w fun r w' => r = .returned (.bool true) ∧ Later w w' := by
  by_cases hbig : 1048576 < t.size
  · go_enter Try.func6, Try.ntmps6
    go_wp2_with fail
    go_ret
    exact ⟨rfl, Later.rfl' _⟩
  · have hsm : t.size ≤ 1048576 := by omega
    clear hbig
    have hok : ∀ (W w' : World) r, r = .returned (leafA 2 0 0 t) → CopyV W w' (leafD 2 0 0 t) r := fun W w' r hr => copy_leaf hr (by unfold Between64; omega) (by unfold Between64; omega) (by unfold Between64; omega) (by simp only [maxLen] at ht; omega)
    have CS : ∀ W, Calls Try.prog 26 #[.string t] W fun r w' => CopyV W w' (leafD 2 0 0 t) r ∧ Later W w' := fun W => (specTextValue t W).mono fun _ _ h => ⟨hok _ _ _ h.1, h.2⟩
    have CI : ∀ W, Calls Try.prog 27 #[.string t] W fun r w' => CopyV W w' (leafD 2 0 0 t) r ∧ Later W w' := fun W => (implTextValue t W).mono fun _ _ h => ⟨hok _ _ _ h.1, h.2⟩
    have htop := topN_le (leafD 2 0 0 t)
    rw [cost_leaf] at htop
    have hsz : (t : ByteArray).size ≤ 1048576 := by first | omega | decide
    obtain ⟨d, hd⟩ : ∃ d, d = leafD 2 0 0 t := ⟨_, rfl⟩
    rw [← hd] at htop
    simp only [← hd] at CS CI
    have CM := fun W S cs h => markValue d 1 1 rfl W S cs (by omega) h
    have CH := fun W S cs h => heldValue d 1 1 rfl W S cs (by omega) h
    obtain ⟨N, hN⟩ : ∃ N, N = 1 + d.topN := ⟨_, rfl⟩
    simp only [← hN] at CM CH
    have hN0 : (0 : Int) ≤ (N : Int) := by omega
    have HS := Lib.hid CS; have HI := Lib.hid CI; have HM := Lib.hid CM; have HH := Lib.hid CH
    have HEQ := Lib.hid (eqValue d)
    clear CS CI CM CH htop hsz hd hN hok
    go_enter Try.func6, Try.ntmps6
    go_wp2_with fail
    refine (HS.out _).mono ?_; rintro r w1 ⟨⟨p0, p1, p2, p3, pA1, pn1, pc1, pA2, pn2, pc2, pA3, pn3, pc3, rfl, hx⟩, hb⟩
    have L := Lib.hid (hb)
    have AW := Lib.hid (hx.ats)
    have hs1 := hb.size
    clear hb hx
    go_wp2_with fail
    refine (HI.out _).mono ?_; rintro r w2 ⟨⟨q0, q1, q2, q3, qA1, qn1, qc1, qA2, qn2, qc2, qA3, qn3, qc3, rfl, hx⟩, hb⟩
    have T := Lib.hid (((Later.rfl' _).alloc _).trans hb)
    replace L := Lib.hid (L.out.trans T.out)
    replace AW := Lib.hid (AW.out.later T.out)
    have BW := Lib.hid ((box_alloc w1 _ _).later hb)
    have hs2 := hb.size
    simp only [World.size_alloc] at hs2 hx
    have OG := Lib.hid (hx)
    clear T hb hx
    have BW_z := BW.out.lt
    have BW_0 := BW.out.cell (j := 0) rfl
    have BW_1 := BW.out.cell (j := 1) rfl
    have BW_2 := BW.out.cell (j := 2) rfl
    have BW_3 := BW.out.cell (j := 3) rfl
    have BW_4 := BW.out.cell (j := 4) rfl
    have BW_5 := BW.out.cell (j := 5) rfl
    have BW_6 := BW.out.cell (j := 6) rfl
    go_wp2_with fail
    refine (HEQ.out _ _ _ _ _ (OG.out.ats.later ((Later.rfl' _).alloc _)) (AW.out.later ((Later.rfl' _).alloc _))).mono ?_; rintro r w3 ⟨rfl, hb⟩
    clear BW_z BW_0 BW_1 BW_2 BW_3 BW_4 BW_5 BW_6
    have T := Lib.hid (((Later.rfl' _).alloc _).trans hb)
    replace L := Lib.hid (L.out.trans T.out)
    replace AW := Lib.hid (AW.out.later T.out)
    replace BW := Lib.hid (BW.out.later T.out)
    replace OG := Lib.hid (OG.out.later T.out)
    have BG := Lib.hid ((box_alloc w2 _ _).later hb)
    have hs3 := hb.size
    simp only [World.size_alloc] at hs3
    clear T hb
    have BG_z := BG.out.lt
    have BG_0 := BG.out.cell (j := 0) rfl
    have BG_1 := BG.out.cell (j := 1) rfl
    have BG_2 := BG.out.cell (j := 2) rfl
    have BG_3 := BG.out.cell (j := 3) rfl
    have BG_4 := BG.out.cell (j := 4) rfl
    have BG_5 := BG.out.cell (j := 5) rfl
    have BG_6 := BG.out.cell (j := 6) rfl
    go_wp2_with fail
    refine (HM.out _ _ _ OG.out).mono ?_; rintro r w4 ⟨rfl, ho, hc⟩
    clear BG_z BG_0 BG_1 BG_2 BG_3 BG_4 BG_5 BG_6
    replace L := Lib.hid (Chg.later L.out hc (fun b hb => by omega))
    replace AW := Lib.hid (AW.out.chg hc (fun b h1 h2 => by omega))
    replace BW := Lib.hid (BW.out.chg hc (by omega))
    replace BG := Lib.hid (BG.out.chg hc (by omega))
    replace OG := Lib.hid ho
    have hs4 := hc.size
    clear ho hc
    have BG_z := BG.out.lt
    have BG_0 := BG.out.cell (j := 0) rfl
    have BG_1 := BG.out.cell (j := 1) rfl
    have BG_2 := BG.out.cell (j := 2) rfl
    have BG_3 := BG.out.cell (j := 3) rfl
    have BG_4 := BG.out.cell (j := 4) rfl
    have BG_5 := BG.out.cell (j := 5) rfl
    have BG_6 := BG.out.cell (j := 6) rfl
    go_wp2_with fail
    refine (HH.out _ _ _ OG.out.ats).mono ?_; rintro r w5 ⟨rfl, hb⟩
    clear BG_z BG_0 BG_1 BG_2 BG_3 BG_4 BG_5 BG_6
    have T := Lib.hid ((Later.rfl' _).trans hb); clear hb
    replace L := Lib.hid (L.out.trans T.out)
    replace AW := Lib.hid (AW.out.later T.out)
    replace BW := Lib.hid (BW.out.later T.out)
    replace OG := Lib.hid (OG.out.later T.out)
    replace BG := Lib.hid (BG.out.later T.out)
    clear T
    go_wp2_with fail
    refine (HI.out _).mono ?_; rintro r w6 ⟨⟨s0, s1, s2, s3, sA1, sn1, sc1, sA2, sn2, sc2, sA3, sn3, sc3, rfl, hx⟩, hb⟩
    have T := Lib.hid hb
    replace L := Lib.hid (L.out.trans T.out)
    replace AW := Lib.hid (AW.out.later T.out)
    replace BW := Lib.hid (BW.out.later T.out)
    replace OG := Lib.hid (OG.out.later T.out)
    replace BG := Lib.hid (BG.out.later T.out)
    have AH := Lib.hid (hx.ats)
    clear T hb hx
    have BW_z := BW.out.lt
    have BW_0 := BW.out.cell (j := 0) rfl
    have BW_1 := BW.out.cell (j := 1) rfl
    have BW_2 := BW.out.cell (j := 2) rfl
    have BW_3 := BW.out.cell (j := 3) rfl
    have BW_4 := BW.out.cell (j := 4) rfl
    have BW_5 := BW.out.cell (j := 5) rfl
    have BW_6 := BW.out.cell (j := 6) rfl
    go_wp2_with fail
    refine (HEQ.out _ _ _ _ _ (AH.out.later ((Later.rfl' _).alloc _)) (AW.out.later ((Later.rfl' _).alloc _))).mono ?_; rintro r w7 ⟨rfl, hb⟩
    clear BW_z BW_0 BW_1 BW_2 BW_3 BW_4 BW_5 BW_6
    have T := Lib.hid (((Later.rfl' _).alloc _).trans hb)
    replace L := Lib.hid (L.out.trans T.out)
    replace AW := Lib.hid (AW.out.later T.out)
    replace BW := Lib.hid (BW.out.later T.out)
    replace OG := Lib.hid (OG.out.later T.out)
    replace BG := Lib.hid (BG.out.later T.out)
    replace AH := Lib.hid (AH.out.later T.out)
    clear T hb
    have BG_z := BG.out.lt
    have BG_0 := BG.out.cell (j := 0) rfl
    have BG_1 := BG.out.cell (j := 1) rfl
    have BG_2 := BG.out.cell (j := 2) rfl
    have BG_3 := BG.out.cell (j := 3) rfl
    have BG_4 := BG.out.cell (j := 4) rfl
    have BG_5 := BG.out.cell (j := 5) rfl
    have BG_6 := BG.out.cell (j := 6) rfl
    go_wp2_with fail
    refine (HH.out _ _ _ OG.out.ats).mono ?_; rintro r w8 ⟨rfl, hb⟩
    clear BG_z BG_0 BG_1 BG_2 BG_3 BG_4 BG_5 BG_6
    have T := Lib.hid ((Later.rfl' _).trans hb); clear hb
    replace L := Lib.hid (L.out.trans T.out)
    replace AW := Lib.hid (AW.out.later T.out)
    replace BW := Lib.hid (BW.out.later T.out)
    replace OG := Lib.hid (OG.out.later T.out)
    replace BG := Lib.hid (BG.out.later T.out)
    replace AH := Lib.hid (AH.out.later T.out)
    clear T
    go_wp2_with fail
    go_ret
    exact ⟨rfl, L.out⟩
set_option maxHeartbeats 2000000 in
theorem walk_FnExactTruthValue (b : Bool) (w : World)  : Calls Try.prog 11 #[.bool b] w fun r w' => r = .returned (.bool true) ∧ Later w w' := by
  have hok : ∀ (W w' : World) r, r = .returned (leafA 1 (if b then 1 else 0) 0 ⟨#[]⟩) → CopyV W w' (leafD 1 (if b then 1 else 0) 0 ⟨#[]⟩) r := fun W w' r hr => copy_leaf hr (by unfold Between64; omega) (by cases b <;> (unfold Between64; simp)) (by unfold Between64; omega) (by decide)
  have CS : ∀ W, Calls Try.prog 36 #[.bool b] W fun r w' => CopyV W w' (leafD 1 (if b then 1 else 0) 0 ⟨#[]⟩) r ∧ Later W w' := fun W => (specTruthValue b W).mono fun _ _ h => ⟨hok _ _ _ h.1, h.2⟩
  have CI : ∀ W, Calls Try.prog 37 #[.bool b] W fun r w' => CopyV W w' (leafD 1 (if b then 1 else 0) 0 ⟨#[]⟩) r ∧ Later W w' := fun W => (implTruthValue b W).mono fun _ _ h => ⟨hok _ _ _ h.1, h.2⟩
  have htop := topN_le (leafD 1 (if b then 1 else 0) 0 ⟨#[]⟩)
  rw [cost_leaf] at htop
  have hsz : (⟨#[]⟩ : ByteArray).size ≤ 1048576 := by first | omega | decide
  obtain ⟨d, hd⟩ : ∃ d, d = leafD 1 (if b then 1 else 0) 0 ⟨#[]⟩ := ⟨_, rfl⟩
  rw [← hd] at htop
  simp only [← hd] at CS CI
  have CM := fun W S cs h => markValue d 1 1 rfl W S cs (by omega) h
  have CH := fun W S cs h => heldValue d 1 1 rfl W S cs (by omega) h
  obtain ⟨N, hN⟩ : ∃ N, N = 1 + d.topN := ⟨_, rfl⟩
  simp only [← hN] at CM CH
  have hN0 : (0 : Int) ≤ (N : Int) := by omega
  have HS := Lib.hid CS; have HI := Lib.hid CI; have HM := Lib.hid CM; have HH := Lib.hid CH
  have HEQ := Lib.hid (eqValue d)
  clear CS CI CM CH htop hsz hd hN hok
  go_enter Try.func11, Try.ntmps11
  go_wp2_with fail
  refine (HS.out _).mono ?_; rintro r w1 ⟨⟨p0, p1, p2, p3, pA1, pn1, pc1, pA2, pn2, pc2, pA3, pn3, pc3, rfl, hx⟩, hb⟩
  have L := Lib.hid (hb)
  have AW := Lib.hid (hx.ats)
  have hs1 := hb.size
  clear hb hx
  go_wp2_with fail
  refine (HI.out _).mono ?_; rintro r w2 ⟨⟨q0, q1, q2, q3, qA1, qn1, qc1, qA2, qn2, qc2, qA3, qn3, qc3, rfl, hx⟩, hb⟩
  have T := Lib.hid (((Later.rfl' _).alloc _).trans hb)
  replace L := Lib.hid (L.out.trans T.out)
  replace AW := Lib.hid (AW.out.later T.out)
  have BW := Lib.hid ((box_alloc w1 _ _).later hb)
  have hs2 := hb.size
  simp only [World.size_alloc] at hs2 hx
  have OG := Lib.hid (hx)
  clear T hb hx
  have BW_z := BW.out.lt
  have BW_0 := BW.out.cell (j := 0) rfl
  have BW_1 := BW.out.cell (j := 1) rfl
  have BW_2 := BW.out.cell (j := 2) rfl
  have BW_3 := BW.out.cell (j := 3) rfl
  have BW_4 := BW.out.cell (j := 4) rfl
  have BW_5 := BW.out.cell (j := 5) rfl
  have BW_6 := BW.out.cell (j := 6) rfl
  go_wp2_with fail
  refine (HEQ.out _ _ _ _ _ (OG.out.ats.later ((Later.rfl' _).alloc _)) (AW.out.later ((Later.rfl' _).alloc _))).mono ?_; rintro r w3 ⟨rfl, hb⟩
  clear BW_z BW_0 BW_1 BW_2 BW_3 BW_4 BW_5 BW_6
  have T := Lib.hid (((Later.rfl' _).alloc _).trans hb)
  replace L := Lib.hid (L.out.trans T.out)
  replace AW := Lib.hid (AW.out.later T.out)
  replace BW := Lib.hid (BW.out.later T.out)
  replace OG := Lib.hid (OG.out.later T.out)
  have BG := Lib.hid ((box_alloc w2 _ _).later hb)
  have hs3 := hb.size
  simp only [World.size_alloc] at hs3
  clear T hb
  have BG_z := BG.out.lt
  have BG_0 := BG.out.cell (j := 0) rfl
  have BG_1 := BG.out.cell (j := 1) rfl
  have BG_2 := BG.out.cell (j := 2) rfl
  have BG_3 := BG.out.cell (j := 3) rfl
  have BG_4 := BG.out.cell (j := 4) rfl
  have BG_5 := BG.out.cell (j := 5) rfl
  have BG_6 := BG.out.cell (j := 6) rfl
  go_wp2_with fail
  refine (HM.out _ _ _ OG.out).mono ?_; rintro r w4 ⟨rfl, ho, hc⟩
  clear BG_z BG_0 BG_1 BG_2 BG_3 BG_4 BG_5 BG_6
  replace L := Lib.hid (Chg.later L.out hc (fun b hb => by omega))
  replace AW := Lib.hid (AW.out.chg hc (fun b h1 h2 => by omega))
  replace BW := Lib.hid (BW.out.chg hc (by omega))
  replace BG := Lib.hid (BG.out.chg hc (by omega))
  replace OG := Lib.hid ho
  have hs4 := hc.size
  clear ho hc
  have BG_z := BG.out.lt
  have BG_0 := BG.out.cell (j := 0) rfl
  have BG_1 := BG.out.cell (j := 1) rfl
  have BG_2 := BG.out.cell (j := 2) rfl
  have BG_3 := BG.out.cell (j := 3) rfl
  have BG_4 := BG.out.cell (j := 4) rfl
  have BG_5 := BG.out.cell (j := 5) rfl
  have BG_6 := BG.out.cell (j := 6) rfl
  go_wp2_with fail
  refine (HH.out _ _ _ OG.out.ats).mono ?_; rintro r w5 ⟨rfl, hb⟩
  clear BG_z BG_0 BG_1 BG_2 BG_3 BG_4 BG_5 BG_6
  have T := Lib.hid ((Later.rfl' _).trans hb); clear hb
  replace L := Lib.hid (L.out.trans T.out)
  replace AW := Lib.hid (AW.out.later T.out)
  replace BW := Lib.hid (BW.out.later T.out)
  replace OG := Lib.hid (OG.out.later T.out)
  replace BG := Lib.hid (BG.out.later T.out)
  clear T
  go_wp2_with fail
  refine (HI.out _).mono ?_; rintro r w6 ⟨⟨s0, s1, s2, s3, sA1, sn1, sc1, sA2, sn2, sc2, sA3, sn3, sc3, rfl, hx⟩, hb⟩
  have T := Lib.hid hb
  replace L := Lib.hid (L.out.trans T.out)
  replace AW := Lib.hid (AW.out.later T.out)
  replace BW := Lib.hid (BW.out.later T.out)
  replace OG := Lib.hid (OG.out.later T.out)
  replace BG := Lib.hid (BG.out.later T.out)
  have AH := Lib.hid (hx.ats)
  clear T hb hx
  have BW_z := BW.out.lt
  have BW_0 := BW.out.cell (j := 0) rfl
  have BW_1 := BW.out.cell (j := 1) rfl
  have BW_2 := BW.out.cell (j := 2) rfl
  have BW_3 := BW.out.cell (j := 3) rfl
  have BW_4 := BW.out.cell (j := 4) rfl
  have BW_5 := BW.out.cell (j := 5) rfl
  have BW_6 := BW.out.cell (j := 6) rfl
  go_wp2_with fail
  refine (HEQ.out _ _ _ _ _ (AH.out.later ((Later.rfl' _).alloc _)) (AW.out.later ((Later.rfl' _).alloc _))).mono ?_; rintro r w7 ⟨rfl, hb⟩
  clear BW_z BW_0 BW_1 BW_2 BW_3 BW_4 BW_5 BW_6
  have T := Lib.hid (((Later.rfl' _).alloc _).trans hb)
  replace L := Lib.hid (L.out.trans T.out)
  replace AW := Lib.hid (AW.out.later T.out)
  replace BW := Lib.hid (BW.out.later T.out)
  replace OG := Lib.hid (OG.out.later T.out)
  replace BG := Lib.hid (BG.out.later T.out)
  replace AH := Lib.hid (AH.out.later T.out)
  clear T hb
  have BG_z := BG.out.lt
  have BG_0 := BG.out.cell (j := 0) rfl
  have BG_1 := BG.out.cell (j := 1) rfl
  have BG_2 := BG.out.cell (j := 2) rfl
  have BG_3 := BG.out.cell (j := 3) rfl
  have BG_4 := BG.out.cell (j := 4) rfl
  have BG_5 := BG.out.cell (j := 5) rfl
  have BG_6 := BG.out.cell (j := 6) rfl
  go_wp2_with fail
  refine (HH.out _ _ _ OG.out.ats).mono ?_; rintro r w8 ⟨rfl, hb⟩
  clear BG_z BG_0 BG_1 BG_2 BG_3 BG_4 BG_5 BG_6
  have T := Lib.hid ((Later.rfl' _).trans hb); clear hb
  replace L := Lib.hid (L.out.trans T.out)
  replace AW := Lib.hid (AW.out.later T.out)
  replace BW := Lib.hid (BW.out.later T.out)
  replace OG := Lib.hid (OG.out.later T.out)
  replace BG := Lib.hid (BG.out.later T.out)
  replace AH := Lib.hid (AH.out.later T.out)
  clear T
  go_wp2_with fail
  go_ret
  exact ⟨rfl, L.out⟩
set_option maxHeartbeats 2000000 in
theorem walk_FnExactCheckedNumber (n : Int) (w : World) (hn : Between64 n) : Calls Try.prog 12 #[.int .i64 n] w fun r w' => r = .returned (.bool true) ∧ Later w w' := by
  have hok : ∀ (W w' : World) r, r = .returned (leafA (if numB n then 1 else 6) (if numB n then n else 5) 0 ⟨#[]⟩) → CopyV W w' (leafD (if numB n then 1 else 6) (if numB n then n else 5) 0 ⟨#[]⟩) r := fun W w' r hr => copy_leaf hr (by cases numB n <;> (unfold Between64; simp)) (by cases numB n <;> first | exact hn | (unfold Between64; simp)) (by unfold Between64; omega) (by decide)
  have CS : ∀ W, Calls Try.prog 38 #[.int .i64 n] W fun r w' => CopyV W w' (leafD (if numB n then 1 else 6) (if numB n then n else 5) 0 ⟨#[]⟩) r ∧ Later W w' := fun W => (specCheckedNumber n W).mono fun _ _ h => ⟨hok _ _ _ h.1, h.2⟩
  have CI : ∀ W, Calls Try.prog 39 #[.int .i64 n] W fun r w' => CopyV W w' (leafD (if numB n then 1 else 6) (if numB n then n else 5) 0 ⟨#[]⟩) r ∧ Later W w' := fun W => (implCheckedNumber n W).mono fun _ _ h => ⟨hok _ _ _ h.1, h.2⟩
  have htop := topN_le (leafD (if numB n then 1 else 6) (if numB n then n else 5) 0 ⟨#[]⟩)
  rw [cost_leaf] at htop
  have hsz : (⟨#[]⟩ : ByteArray).size ≤ 1048576 := by first | omega | decide
  obtain ⟨d, hd⟩ : ∃ d, d = leafD (if numB n then 1 else 6) (if numB n then n else 5) 0 ⟨#[]⟩ := ⟨_, rfl⟩
  rw [← hd] at htop
  simp only [← hd] at CS CI
  have CM := fun W S cs h => markValue d 1 1 rfl W S cs (by omega) h
  have CH := fun W S cs h => heldValue d 1 1 rfl W S cs (by omega) h
  obtain ⟨N, hN⟩ : ∃ N, N = 1 + d.topN := ⟨_, rfl⟩
  simp only [← hN] at CM CH
  have hN0 : (0 : Int) ≤ (N : Int) := by omega
  have HS := Lib.hid CS; have HI := Lib.hid CI; have HM := Lib.hid CM; have HH := Lib.hid CH
  have HEQ := Lib.hid (eqValue d)
  clear CS CI CM CH htop hsz hd hN hok
  go_enter Try.func12, Try.ntmps12
  go_wp2_with fail
  refine (HS.out _).mono ?_; rintro r w1 ⟨⟨p0, p1, p2, p3, pA1, pn1, pc1, pA2, pn2, pc2, pA3, pn3, pc3, rfl, hx⟩, hb⟩
  have L := Lib.hid (hb)
  have AW := Lib.hid (hx.ats)
  have hs1 := hb.size
  clear hb hx
  go_wp2_with fail
  refine (HI.out _).mono ?_; rintro r w2 ⟨⟨q0, q1, q2, q3, qA1, qn1, qc1, qA2, qn2, qc2, qA3, qn3, qc3, rfl, hx⟩, hb⟩
  have T := Lib.hid (((Later.rfl' _).alloc _).trans hb)
  replace L := Lib.hid (L.out.trans T.out)
  replace AW := Lib.hid (AW.out.later T.out)
  have BW := Lib.hid ((box_alloc w1 _ _).later hb)
  have hs2 := hb.size
  simp only [World.size_alloc] at hs2 hx
  have OG := Lib.hid (hx)
  clear T hb hx
  have BW_z := BW.out.lt
  have BW_0 := BW.out.cell (j := 0) rfl
  have BW_1 := BW.out.cell (j := 1) rfl
  have BW_2 := BW.out.cell (j := 2) rfl
  have BW_3 := BW.out.cell (j := 3) rfl
  have BW_4 := BW.out.cell (j := 4) rfl
  have BW_5 := BW.out.cell (j := 5) rfl
  have BW_6 := BW.out.cell (j := 6) rfl
  go_wp2_with fail
  refine (HEQ.out _ _ _ _ _ (OG.out.ats.later ((Later.rfl' _).alloc _)) (AW.out.later ((Later.rfl' _).alloc _))).mono ?_; rintro r w3 ⟨rfl, hb⟩
  clear BW_z BW_0 BW_1 BW_2 BW_3 BW_4 BW_5 BW_6
  have T := Lib.hid (((Later.rfl' _).alloc _).trans hb)
  replace L := Lib.hid (L.out.trans T.out)
  replace AW := Lib.hid (AW.out.later T.out)
  replace BW := Lib.hid (BW.out.later T.out)
  replace OG := Lib.hid (OG.out.later T.out)
  have BG := Lib.hid ((box_alloc w2 _ _).later hb)
  have hs3 := hb.size
  simp only [World.size_alloc] at hs3
  clear T hb
  have BG_z := BG.out.lt
  have BG_0 := BG.out.cell (j := 0) rfl
  have BG_1 := BG.out.cell (j := 1) rfl
  have BG_2 := BG.out.cell (j := 2) rfl
  have BG_3 := BG.out.cell (j := 3) rfl
  have BG_4 := BG.out.cell (j := 4) rfl
  have BG_5 := BG.out.cell (j := 5) rfl
  have BG_6 := BG.out.cell (j := 6) rfl
  go_wp2_with fail
  refine (HM.out _ _ _ OG.out).mono ?_; rintro r w4 ⟨rfl, ho, hc⟩
  clear BG_z BG_0 BG_1 BG_2 BG_3 BG_4 BG_5 BG_6
  replace L := Lib.hid (Chg.later L.out hc (fun b hb => by omega))
  replace AW := Lib.hid (AW.out.chg hc (fun b h1 h2 => by omega))
  replace BW := Lib.hid (BW.out.chg hc (by omega))
  replace BG := Lib.hid (BG.out.chg hc (by omega))
  replace OG := Lib.hid ho
  have hs4 := hc.size
  clear ho hc
  have BG_z := BG.out.lt
  have BG_0 := BG.out.cell (j := 0) rfl
  have BG_1 := BG.out.cell (j := 1) rfl
  have BG_2 := BG.out.cell (j := 2) rfl
  have BG_3 := BG.out.cell (j := 3) rfl
  have BG_4 := BG.out.cell (j := 4) rfl
  have BG_5 := BG.out.cell (j := 5) rfl
  have BG_6 := BG.out.cell (j := 6) rfl
  go_wp2_with fail
  refine (HH.out _ _ _ OG.out.ats).mono ?_; rintro r w5 ⟨rfl, hb⟩
  clear BG_z BG_0 BG_1 BG_2 BG_3 BG_4 BG_5 BG_6
  have T := Lib.hid ((Later.rfl' _).trans hb); clear hb
  replace L := Lib.hid (L.out.trans T.out)
  replace AW := Lib.hid (AW.out.later T.out)
  replace BW := Lib.hid (BW.out.later T.out)
  replace OG := Lib.hid (OG.out.later T.out)
  replace BG := Lib.hid (BG.out.later T.out)
  clear T
  go_wp2_with fail
  refine (HI.out _).mono ?_; rintro r w6 ⟨⟨s0, s1, s2, s3, sA1, sn1, sc1, sA2, sn2, sc2, sA3, sn3, sc3, rfl, hx⟩, hb⟩
  have T := Lib.hid hb
  replace L := Lib.hid (L.out.trans T.out)
  replace AW := Lib.hid (AW.out.later T.out)
  replace BW := Lib.hid (BW.out.later T.out)
  replace OG := Lib.hid (OG.out.later T.out)
  replace BG := Lib.hid (BG.out.later T.out)
  have AH := Lib.hid (hx.ats)
  clear T hb hx
  have BW_z := BW.out.lt
  have BW_0 := BW.out.cell (j := 0) rfl
  have BW_1 := BW.out.cell (j := 1) rfl
  have BW_2 := BW.out.cell (j := 2) rfl
  have BW_3 := BW.out.cell (j := 3) rfl
  have BW_4 := BW.out.cell (j := 4) rfl
  have BW_5 := BW.out.cell (j := 5) rfl
  have BW_6 := BW.out.cell (j := 6) rfl
  go_wp2_with fail
  refine (HEQ.out _ _ _ _ _ (AH.out.later ((Later.rfl' _).alloc _)) (AW.out.later ((Later.rfl' _).alloc _))).mono ?_; rintro r w7 ⟨rfl, hb⟩
  clear BW_z BW_0 BW_1 BW_2 BW_3 BW_4 BW_5 BW_6
  have T := Lib.hid (((Later.rfl' _).alloc _).trans hb)
  replace L := Lib.hid (L.out.trans T.out)
  replace AW := Lib.hid (AW.out.later T.out)
  replace BW := Lib.hid (BW.out.later T.out)
  replace OG := Lib.hid (OG.out.later T.out)
  replace BG := Lib.hid (BG.out.later T.out)
  replace AH := Lib.hid (AH.out.later T.out)
  clear T hb
  have BG_z := BG.out.lt
  have BG_0 := BG.out.cell (j := 0) rfl
  have BG_1 := BG.out.cell (j := 1) rfl
  have BG_2 := BG.out.cell (j := 2) rfl
  have BG_3 := BG.out.cell (j := 3) rfl
  have BG_4 := BG.out.cell (j := 4) rfl
  have BG_5 := BG.out.cell (j := 5) rfl
  have BG_6 := BG.out.cell (j := 6) rfl
  go_wp2_with fail
  refine (HH.out _ _ _ OG.out.ats).mono ?_; rintro r w8 ⟨rfl, hb⟩
  clear BG_z BG_0 BG_1 BG_2 BG_3 BG_4 BG_5 BG_6
  have T := Lib.hid ((Later.rfl' _).trans hb); clear hb
  replace L := Lib.hid (L.out.trans T.out)
  replace AW := Lib.hid (AW.out.later T.out)
  replace BW := Lib.hid (BW.out.later T.out)
  replace OG := Lib.hid (OG.out.later T.out)
  replace BG := Lib.hid (BG.out.later T.out)
  replace AH := Lib.hid (AH.out.later T.out)
  clear T
  go_wp2_with fail
  go_ret
  exact ⟨rfl, L.out⟩
end Go.Proofs.Ytfdfhfdhkdldlaa
