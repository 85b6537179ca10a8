/-
  SumOf: the walks. Operators: what they answer where no operand is an error: plain words; the answer holds; adding, multiplying and comparing numbers the other way round.
-/
import Derived.Test.YtghemlokpfipoaaYMG7
import Derived.IntWalk
import Derived.Deep.RegionLaw
import Derived.Test.YtghemlokpfipoaaYDP
import Derived.Test.YtghemlokpfipoaaYVL
namespace Go.Proofs.Ytghemlokpfipoaa
open Go.ChangeShapes Go.WideShapes Go.ChangeAt Go.RowKit
set_option linter.unusedVariables false
set_option linter.unusedSimpArgs false
set_option maxRecDepth 100000

def sumL : List Vl → Int → Vl
  | [], acc => leafD 1 acc 0 ⟨#[]⟩
  | x :: l, acc => if x.kind = 1 then (if numV (acc + x.n) = true then sumL l (acc + x.n) else leafD 6 5 0 ⟨#[]⟩) else leafD 6 4 0 ⟨#[]⟩
/-- What SumOf answers. -/
def sumD (d : Vl) : Vl := match errOf d with | some n => leafD 6 n 0 ⟨#[]⟩ | none => if d.kind = 3 then sumL d.list 0 else leafD 6 4 0 ⟨#[]⟩
theorem numV_iff {n : Int} : numV n = true ↔ -1000000000 ≤ n ∧ n ≤ 1000000000 := by simp [numV]
theorem valid_list {d : Vl} (hv : d.valid = true) (hk : d.kind = 3) : ∀ x, x ∈ d.list → x.valid = true := by
  obtain ⟨k, n, s, t, l, c, r, rfl⟩ := Vl.shape d
  simp only [Vl.kind] at hk
  subst hk
  rw [Vl.valid] at hv
  simp only [show ¬ (3 : Int) = 1 by decide, show ¬ (3 : Int) = 2 by decide, show ¬ (3 : Int) = 4 by decide, show ¬ (3 : Int) = 6 by decide, show ¬ (3 : Int) = 5 by decide, if_false, if_true, Bool.and_eq_true] at hv
  have h2 := hv.2.1
  rw [valids_eq, List.all_eq_true] at h2
  intro x hx
  have := h2 x hx
  simp only [Bool.and_eq_true] at this
  exact this.2
theorem valid_num {d : Vl} (hv : d.valid = true) (hk : d.kind = 1) : -1000000000 ≤ d.n ∧ d.n ≤ 1000000000 := by
  obtain ⟨k, n, s, t, l, c, r, rfl⟩ := Vl.shape d
  simp only [Vl.kind] at hk
  subst hk
  rw [Vl.valid] at hv
  simp only [if_true, Bool.and_eq_true] at hv
  exact numV_iff.1 hv.2.2.2
theorem errOf_none {d : Vl} (h : errOf d = none) : d.valid = true ∧ d.kind ≠ 6 := by
  unfold errOf at h
  split at h
  · split at h
    · cases h
    · exact ⟨by assumption, by assumption⟩
  · cases h
theorem sumL_one {l : List Vl} {j : Nat} {acc : Int} (hj : j < l.length) (hk : l[j].kind = 1) (hn : numV (acc + l[j].n) = true) : sumL (l.drop j) acc = sumL (l.drop (j + 1)) (acc + l[j].n) := by
  rw [List.drop_eq_getElem_cons hj, sumL, if_pos hk, if_pos hn]
theorem sumL_big {l : List Vl} {j : Nat} {acc : Int} (hj : j < l.length) (hk : l[j].kind = 1) (hn : numV (acc + l[j].n) = false) : sumL (l.drop j) acc = leafD 6 5 0 ⟨#[]⟩ := by
  rw [List.drop_eq_getElem_cons hj, sumL, if_pos hk, if_neg (by rw [hn]; decide)]
theorem sumL_bad {l : List Vl} {j : Nat} {acc : Int} (hj : j < l.length) (hk : l[j].kind ≠ 1) : sumL (l.drop j) acc = leafD 6 4 0 ⟨#[]⟩ := by
  rw [List.drop_eq_getElem_cons hj, sumL, if_neg hk]
theorem sumL_end {l : List Vl} {j : Nat} {acc : Int} (hj : ¬ j < l.length) : sumL (l.drop j) acc = leafD 1 acc 0 ⟨#[]⟩ := by
  rw [List.drop_of_length_le (by omega)]
  rfl
theorem numB_V (n : Int) : numB n = numV n := by unfold numB numV; first | rfl | (rw [Bool.eq_iff_iff]; simp)
theorem specChecked (n : Int) (W : World) : Calls Try.prog 76 #[.int .i64 n] W fun r w' => r = .returned (leafA (if numV n = true then 1 else 6) (if numV n = true then n else 5) 0 ⟨#[]⟩) ∧ Later W w' := by
  have h := specCheckedNumber n W
  rw [numB_V] at h
  exact h
theorem implChecked (n : Int) (W : World) : Calls Try.prog 85 #[.int .i64 n] W fun r w' => r = .returned (leafA (if numV n = true then 1 else 6) (if numV n = true then n else 5) 0 ⟨#[]⟩) ∧ Later W w' := by
  have h := implCheckedNumber n W
  rw [numB_V] at h
  exact h

set_option maxHeartbeats 8000000 in
theorem specSumOf (d : Vl) (hcost : d.cost ≤ 1099511627776) (W : World) (S : Nat → Prop) (cs : List Value) (h : Ats W S (encV d) cs) : Calls Try.prog 21 #[.agg cs.toArray] W fun r w' => LeafOut W (sumD d) r ∧ Later W w' := by
  have C := fun w g (hB : Box w g cs) (hl : Later W w) => specErr1 d hcost W S cs h w g hB hl
  have hvn : errOf d = none → d.kind = 3 → ∀ x, x ∈ d.list → x.kind = 1 → -1000000000 ≤ x.n ∧ x.n ≤ 1000000000 := fun he hk x hx hx1 => valid_num (valid_list (errOf_none he).1 hk x hx) hx1
  obtain ⟨k, n, s, t, l, cl, r, hd⟩ := Vl.shape d
  obtain ⟨A1, c1, A2, c2, A3, c3, rfl, hb4, ⟨p1, q1⟩, ⟨p2, q2⟩, ⟨p3, q3⟩, g1, g2, g3⟩ := (hd ▸ h : Ats W S (encV (.mk k n s t l cl r)) cs).val
  have hdk : d.kind = k := by rw [hd]; rfl
  have hdl : d.list = l := by rw [hd]; rfl
  rw [hdl] at hvn
  rw [hdk] at hvn
  have hsum : sumD d = match errOf d with | some n => leafD 6 n 0 ⟨#[]⟩ | none => if k = 3 then sumL l 0 else leafD 6 4 0 ⟨#[]⟩ := by unfold sumD; rw [hdk, hdl]
  have HE := Lib.hid g1
  obtain ⟨E, hE⟩ : ∃ E, E = errOf d := ⟨_, rfl⟩
  rw [← hE] at hsum hvn
  simp only [← hE] at C
  have HC := Lib.hid C
  clear C hE hd hdk hdl h g1 g2 g3 hb4 hcost
  have BX : Box (((W.alloc (.cells #[.int .i64 k, .int .i64 n, .int .i64 s, .string t, .slice A1 l.length c1, .slice A2 cl.length c2, .slice A3 r.length c3] 28)).alloc (.cells #[.int .i64 0, .int .i64 0, .int .i64 0, .string ⟨#[]⟩, .slice none 0 0, .slice none 0 0, .slice none 0 0] 28)).alloc (.cells #[.int .i64 k, .int .i64 n, .int .i64 s, .string t, .slice A1 l.length c1, .slice A2 cl.length c2, .slice A3 r.length c3] 28)) (W.heap.size + 1 + 1) [.int .i64 k, .int .i64 n, .int .i64 s, .string t, .slice A1 l.length c1, .slice A2 cl.length c2, .slice A3 r.length c3] := (box3 (Later.rfl' _)).2.2.1
  have HBX := Lib.hid BX
  clear BX
  go_enter Try.func21, Try.ntmps21
  go_wp2_with fail
  refine (HC.out _ _ HBX.out ((((Later.rfl' _).alloc _).alloc _).alloc _)).mono ?_; rintro e w1 ⟨⟨z0, z1, z2, z3, E1, u1, m1, E2, u2, m2, E3, u3, m3, rfl, hEr⟩, hb1⟩
  obtain ⟨P, R, _, hs, L⟩ := box3 hb1
  clear hb1 HBX HC
  cases E with
  | some m =>
    have HEr := Lib.hid (hEr m rfl)
    simp only at hsum
    have HK := Lib.hid hsum
    have R := R.later ((Later.rfl' _).alloc (.cells #[.int .i64 z0, .int .i64 z1, .int .i64 z2, .string z3, .slice E1 u1 m1, .slice E2 u2 m2, .slice E3 u3 m3] 28))
    have L := Lib.hid (L.alloc (.cells #[.int .i64 z0, .int .i64 z1, .int .i64 z2, .string z3, .slice E1 u1 m1, .slice E2 u2 m2, .slice E3 u3 m3] 28))
    clear hEr hsum hvn P
    have r0 := R.cell (j := 0) rfl
    have f0 := R.free 0
    have r1 := R.cell (j := 1) rfl
    have f1 := R.free 1
    have r2 := R.cell (j := 2) rfl
    have f2 := R.free 2
    have r3 := R.cell (j := 3) rfl
    have f3 := R.free 3
    have r4 := R.cell (j := 4) rfl
    have f4 := R.free 4
    have r5 := R.cell (j := 5) rfl
    have f5 := R.free 5
    have r6 := R.cell (j := 6) rfl
    have f6 := R.free 6
    have rz := R.lt
    clear R
    go_wp2_with fail
    exact bodyPost_ret (v := .agg #[.int .i64 z0, .int .i64 z1, .int .i64 z2, .string z3, .slice E1 u1 m1, .slice E2 u2 m2, .slice E3 u3 m3]) (by simp [results, Try.results21, go_sem, r0, r1, r2, r3, r4, r5, r6]) rfl ⟨⟨_, _, _, _, _, _, _, _, _, _, _, _, _, rfl, fun w hw => by rw [HK.out]; exact HEr.out.2 w hw⟩, later_setFrom (Nat.le_succ _) [.int .i64 z0, .int .i64 z1, .int .i64 z2, .string z3, .slice E1 u1 m1, .slice E2 u2 m2, .slice E3 u3 m3] _ 0 L.out⟩
  | none =>
    simp only at hsum
    by_cases hk3 : k = 3
    · subst hk3
      have HVN := Lib.hid (hvn rfl rfl)
      rw [if_pos rfl] at hsum
      have HD := Lib.hid hsum
      clear hsum hvn hEr
      have HRQ := Lib.hid (R.later ((Later.rfl' _).alloc (.cells #[.int .i64 z0, .int .i64 z1, .int .i64 z2, .string z3, .slice E1 u1 m1, .slice E2 u2 m2, .slice E3 u3 m3] 28))); have HPQ := Lib.hid (P.later ((Later.rfl' _).alloc (.cells #[.int .i64 z0, .int .i64 z1, .int .i64 z2, .string z3, .slice E1 u1 m1, .slice E2 u2 m2, .slice E3 u3 m3] 28))); have HLQ := Lib.hid (L.alloc (.cells #[.int .i64 z0, .int .i64 z1, .int .i64 z2, .string z3, .slice E1 u1 m1, .slice E2 u2 m2, .slice E3 u3 m3] 28))
      have q0 := (P.later ((Later.rfl' _).alloc (.cells #[.int .i64 z0, .int .i64 z1, .int .i64 z2, .string z3, .slice E1 u1 m1, .slice E2 u2 m2, .slice E3 u3 m3] 28))).cell (j := 0) rfl
      have q4 := (P.later ((Later.rfl' _).alloc (.cells #[.int .i64 z0, .int .i64 z1, .int .i64 z2, .string z3, .slice E1 u1 m1, .slice E2 u2 m2, .slice E3 u3 m3] 28))).cell (j := 4) rfl
      clear P R L hs
      go_wp2_with fail
      refine (specNumberValue 0 _).mono ?_; rintro e w2 ⟨rfl, hb2⟩
      unfold leafA
      have HRQ2 := Lib.hid ((HRQ.out.later hb2).later ((Later.rfl' w2).alloc (.cells #[.int .i64 1, .int .i64 0, .int .i64 0, .string ⟨#[]⟩, .slice none 0 0, .slice none 0 0, .slice none 0 0] 28))); have HPQ2 := Lib.hid ((HPQ.out.later hb2).later ((Later.rfl' w2).alloc (.cells #[.int .i64 1, .int .i64 0, .int .i64 0, .string ⟨#[]⟩, .slice none 0 0, .slice none 0 0, .slice none 0 0] 28))); have HLQ2 := Lib.hid ((HLQ.out.trans hb2).alloc (.cells #[.int .i64 1, .int .i64 0, .int .i64 0, .string ⟨#[]⟩, .slice none 0 0, .slice none 0 0, .slice none 0 0] 28)); have HO2 := Lib.hid (box_alloc w2 #[.int .i64 1, .int .i64 0, .int .i64 0, .string ⟨#[]⟩, .slice none 0 0, .slice none 0 0, .slice none 0 0] 28)
      have hszw := HRQ2.out.lt
      have hw2s : W.heap.size + 2 ≤ w2.heap.size := by have h1 := hb2.size; have h2 := HRQ.out.lt; omega
      clear hb2
      go_wp2_with fail
      go_loopw [6] (fun i wr => ∃ (j : Nat) (acc : Int), j ≤ l.length ∧ i = .int .i64 (j : Int) ∧ (-1000000000 ≤ acc ∧ acc ≤ 1000000000) ∧ Hid (sumL l 0 = sumL (l.drop j) acc) ∧ Box wr w2.heap.size [.int .i64 1, .int .i64 acc, .int .i64 0, .string ⟨#[]⟩, .slice none 0 0, .slice none 0 0, .slice none 0 0] ∧ Box wr (W.heap.size + 1) [.int .i64 0, .int .i64 0, .int .i64 0, .string ⟨#[]⟩, .slice none 0 0, .slice none 0 0, .slice none 0 0] ∧ Box wr W.heap.size [.int .i64 3, .int .i64 n, .int .i64 s, .string t, .slice A1 l.length c1, .slice A2 cl.length c2, .slice A3 r.length c3] ∧ Later W wr) (fun i _ => l.length - (intOf i).toNat)
      case atStart => exact ⟨0, 0, Nat.zero_le _, rfl, by omega, rfl, HO2.out, HRQ2.out, HPQ2.out, HLQ2.out⟩
      case round =>
        obtain ⟨j, acc, hj, rfl, hac, hsm, hO, hR, hP, hw⟩ := hrel
        have HRJ := Lib.hid hR; have HLJ := Lib.hid hw; have HOJ := Lib.hid hO; have HPJ := Lib.hid hP
        have p4 := hP.cell (j := 4) rfl
        have pz := hP.lt
        clear hw HO2 HRQ2 HPQ2 HLQ2 HRQ HPQ HLQ
        by_cases hlt : j < l.length
        · obtain ⟨b, off, y0, y1, y2, y3, B1, n1, d1, B2, n2, d2, B3, n3, d3, rfl, hb, _, hx, e0, e1, e2, e3, e4, e5, e6⟩ := (HE.out.later HLJ.out).valAt hlt
          have hkn := ats_kn hx
          have hki : (j : Int) < (l.length : Int) := by omega
          clear hx e2 e3 e4 e5 e6
          by_cases hy : y0 = 1
          · subst hy
            have hyb := HVN.out _ (List.getElem_mem hlt) hkn.1
            rw [hkn.2] at hyb
            have o1 := hO.cell (j := 1) rfl
            have oz := hO.lt
            have hwr1 : IntKind.i64.wrap (acc + y1) = acc + y1 := IntWalk.i64_in _ (by omega)
            cases hq : numV (acc + y1) with
            | true =>
              have HN : Hid (sumL l 0 = sumL (l.drop (j + 1)) (acc + y1)) := by unfold Hid; rw [hsm.out, sumL_one hlt hkn.1 (by rw [hkn.2]; exact hq), hkn.2]
              have hq2 := numV_iff.1 hq
              have C := fun w => specChecked (acc + y1) w
              rw [hq] at C
              simp only [if_true] at C
              unfold leafA at C
              have HC := Lib.hid C
              clear C hq hsm hkn hR hP hO
              go_wp2_with fail
              go_region_law (first | (go_simp; go_at_call 76; refine (HC.out _).mono ?_; rintro e w3 ⟨rfl, hb3⟩; have HB3 := Lib.hid ((Later.rfl' wr).drew.trans hb3); have hO3 := HOJ.out.later HB3.out; have o03 := hO3.cell (j := 0) rfl; have of0 := hO3.free 0; have o13 := hO3.cell (j := 1) rfl; have of1 := hO3.free 1; have o23 := hO3.cell (j := 2) rfl; have of2 := hO3.free 2; have o33 := hO3.cell (j := 3) rfl; have of3 := hO3.free 3; have o43 := hO3.cell (j := 4) rfl; have of4 := hO3.free 4; have o53 := hO3.cell (j := 5) rfl; have of5 := hO3.free 5; have o63 := hO3.cell (j := 6) rfl; have of6 := hO3.free 6; have oz3 := hO3.lt; clear hb3 hO3))
              all_goals
                (have HO4 := Lib.hid ((((((((HOJ.out.later HB3.out).set 0 (.int .i64 1)).set 1 (.int .i64 (acc + y1))).set 2 (.int .i64 0)).set 3 (.string ⟨#[]⟩)).set 4 (.slice none 0 0)).set 5 (.slice none 0 0)).set 6 (.slice none 0 0))
                 have hc4 : Chg (fun b => b = w2.heap.size) w3 (((((((w3.setCell ⟨w2.heap.size, 0, none⟩ (.int .i64 1)).setCell ⟨w2.heap.size, 1, none⟩ (.int .i64 (acc + y1))).setCell ⟨w2.heap.size, 2, none⟩ (.int .i64 0)).setCell ⟨w2.heap.size, 3, none⟩ (.string ⟨#[]⟩)).setCell ⟨w2.heap.size, 4, none⟩ (.slice none 0 0)).setCell ⟨w2.heap.size, 5, none⟩ (.slice none 0 0)).setCell ⟨w2.heap.size, 6, none⟩ (.slice none 0 0)) := (((((((Chg.rfl' (fun b => b = w2.heap.size) w3).set rfl).set rfl).set rfl).set rfl).set rfl).set rfl).set rfl
                 have HR4 := Lib.hid ((HRJ.out.later HB3.out).chg hc4 fun h => by omega)
                 have HP4 := Lib.hid ((HPJ.out.later HB3.out).chg hc4 fun h => by omega)
                 have HL4 := Lib.hid (Chg.later (HLJ.out.trans HB3.out) hc4 fun k hk => by omega)
                 obtain ⟨w4, hw4⟩ : ∃ w4, w4 = (((((((w3.setCell ⟨w2.heap.size, 0, none⟩ (.int .i64 1)).setCell ⟨w2.heap.size, 1, none⟩ (.int .i64 (acc + y1))).setCell ⟨w2.heap.size, 2, none⟩ (.int .i64 0)).setCell ⟨w2.heap.size, 3, none⟩ (.string ⟨#[]⟩)).setCell ⟨w2.heap.size, 4, none⟩ (.slice none 0 0)).setCell ⟨w2.heap.size, 5, none⟩ (.slice none 0 0)).setCell ⟨w2.heap.size, 6, none⟩ (.slice none 0 0)) := ⟨_, rfl⟩
                 rw [← hw4] at HO4 HR4 HP4 HL4
                 have o0' := HO4.out.cell (j := 0) rfl
                 have oz4 := HO4.out.lt
                 clear hc4 o03 of0 o13 of1 o23 of2 o33 of3 o43 of4 o53 of5 o63 of6 oz3 o1 oz e0 e1 p4 pz hwr1
                 rw [← hw4]
                 clear hw4
                 go_wp2_with fail
                 go_roundw
                 case rel => exact ⟨j + 1, acc + y1, by omega, by go_num, by omega, HN, HO4.out, HR4.out, HP4.out, HL4.out⟩
                 case measure => simp [intOf]; omega)
            | false =>
              have HK : Hid (sumD d = leafD 6 5 0 ⟨#[]⟩) := by unfold Hid; rw [HD.out, hsm.out, sumL_big hlt hkn.1 (by rw [hkn.2]; exact hq)]
              have C := fun w => specChecked (acc + y1) w
              rw [hq] at C
              simp only [Bool.false_eq_true, if_false] at C
              unfold leafA at C
              have HC := Lib.hid C
              clear C hq hsm hkn hR hP hO
              go_wp2_with fail
              go_region_law (first | (go_simp; go_at_call 76; refine (HC.out _).mono ?_; rintro e w3 ⟨rfl, hb3⟩; have HB3 := Lib.hid ((Later.rfl' wr).drew.trans hb3); have hO3 := HOJ.out.later HB3.out; have o03 := hO3.cell (j := 0) rfl; have of0 := hO3.free 0; have o13 := hO3.cell (j := 1) rfl; have of1 := hO3.free 1; have o23 := hO3.cell (j := 2) rfl; have of2 := hO3.free 2; have o33 := hO3.cell (j := 3) rfl; have of3 := hO3.free 3; have o43 := hO3.cell (j := 4) rfl; have of4 := hO3.free 4; have o53 := hO3.cell (j := 5) rfl; have of5 := hO3.free 5; have o63 := hO3.cell (j := 6) rfl; have of6 := hO3.free 6; have oz3 := hO3.lt; clear hb3 hO3))
              all_goals
                (have HO4 := Lib.hid ((((((((HOJ.out.later HB3.out).set 0 (.int .i64 6)).set 1 (.int .i64 5)).set 2 (.int .i64 0)).set 3 (.string ⟨#[]⟩)).set 4 (.slice none 0 0)).set 5 (.slice none 0 0)).set 6 (.slice none 0 0))
                 have hc4 : Chg (fun b => b = w2.heap.size) w3 (((((((w3.setCell ⟨w2.heap.size, 0, none⟩ (.int .i64 6)).setCell ⟨w2.heap.size, 1, none⟩ (.int .i64 5)).setCell ⟨w2.heap.size, 2, none⟩ (.int .i64 0)).setCell ⟨w2.heap.size, 3, none⟩ (.string ⟨#[]⟩)).setCell ⟨w2.heap.size, 4, none⟩ (.slice none 0 0)).setCell ⟨w2.heap.size, 5, none⟩ (.slice none 0 0)).setCell ⟨w2.heap.size, 6, none⟩ (.slice none 0 0)) := (((((((Chg.rfl' (fun b => b = w2.heap.size) w3).set rfl).set rfl).set rfl).set rfl).set rfl).set rfl).set rfl
                 have hR4 := (HRJ.out.later HB3.out).chg hc4 fun h => by omega
                 have HL4 := Lib.hid (Chg.later (HLJ.out.trans HB3.out) hc4 fun k hk => by omega)
                 obtain ⟨w4, hw4⟩ : ∃ w4, w4 = (((((((w3.setCell ⟨w2.heap.size, 0, none⟩ (.int .i64 6)).setCell ⟨w2.heap.size, 1, none⟩ (.int .i64 5)).setCell ⟨w2.heap.size, 2, none⟩ (.int .i64 0)).setCell ⟨w2.heap.size, 3, none⟩ (.string ⟨#[]⟩)).setCell ⟨w2.heap.size, 4, none⟩ (.slice none 0 0)).setCell ⟨w2.heap.size, 5, none⟩ (.slice none 0 0)).setCell ⟨w2.heap.size, 6, none⟩ (.slice none 0 0)) := ⟨_, rfl⟩
                 rw [← hw4] at HO4 hR4 HL4
                 have o04 := HO4.out.cell (j := 0) rfl
                 have o14 := HO4.out.cell (j := 1) rfl
                 have o24 := HO4.out.cell (j := 2) rfl
                 have o34 := HO4.out.cell (j := 3) rfl
                 have o44 := HO4.out.cell (j := 4) rfl
                 have o54 := HO4.out.cell (j := 5) rfl
                 have o64 := HO4.out.cell (j := 6) rfl
                 have oz4 := HO4.out.lt
                 have r0 := hR4.cell (j := 0) rfl
                 have f0 := hR4.free 0
                 have r1 := hR4.cell (j := 1) rfl
                 have f1 := hR4.free 1
                 have r2 := hR4.cell (j := 2) rfl
                 have f2 := hR4.free 2
                 have r3 := hR4.cell (j := 3) rfl
                 have f3 := hR4.free 3
                 have r4 := hR4.cell (j := 4) rfl
                 have f4 := hR4.free 4
                 have r5 := hR4.cell (j := 5) rfl
                 have f5 := hR4.free 5
                 have r6 := hR4.cell (j := 6) rfl
                 have f6 := hR4.free 6
                 have rz := hR4.lt
                 clear hc4 hR4 o03 of0 o13 of1 o23 of2 o33 of3 o43 of4 o53 of5 o63 of6 oz3 o1 oz e0 e1 p4 pz hwr1
                 rw [← hw4]
                 clear hw4
                 go_wp2_with fail
                 exact bodyPost_ret (v := leafA 6 5 0 ⟨#[]⟩) (by simp [results, Try.results21, go_sem, leafA, r0, r1, r2, r3, r4, r5, r6]) rfl ⟨leaf_out W HK.out (by unfold Between64; omega) (by unfold Between64; omega) (by unfold Between64; omega) (by decide), later_setFrom (Nat.le_succ _) [.int .i64 6, .int .i64 5, .int .i64 0, .string ⟨#[]⟩, .slice none 0 0, .slice none 0 0, .slice none 0 0] _ 0 HL4.out⟩)
          · have HK : Hid (sumD d = leafD 6 4 0 ⟨#[]⟩) := by unfold Hid; rw [HD.out, hsm.out, sumL_bad hlt (by rw [hkn.1]; exact hy)]
            have e1' : (y0 == 1) = false := by simpa using hy
            have e1'' : (y0 != 1) = true := by simpa using hy
            clear hsm hkn hy hR hP hO
            go_wp2_with fail
            refine (specErrorValue 4 _).mono ?_; rintro e w9 ⟨rfl, hb9⟩
            unfold leafA
            have R9 := (HRJ.out).later hb9
            have L9 := Lib.hid ((HLJ.out).trans hb9)
            have r0 := R9.cell (j := 0) rfl
            have f0 := R9.free 0
            have r1 := R9.cell (j := 1) rfl
            have f1 := R9.free 1
            have r2 := R9.cell (j := 2) rfl
            have f2 := R9.free 2
            have r3 := R9.cell (j := 3) rfl
            have f3 := R9.free 3
            have r4 := R9.cell (j := 4) rfl
            have f4 := R9.free 4
            have r5 := R9.cell (j := 5) rfl
            have f5 := R9.free 5
            have r6 := R9.cell (j := 6) rfl
            have f6 := R9.free 6
            have rz := R9.lt
            clear R9 hb9
            go_wp2_with fail
            exact bodyPost_ret (v := leafA 6 4 0 ⟨#[]⟩) (by simp [results, Try.results21, go_sem, leafA, r0, r1, r2, r3, r4, r5, r6]) rfl ⟨leaf_out W HK.out (by unfold Between64; omega) (by unfold Between64; omega) (by unfold Between64; omega) (by decide), later_setFrom (Nat.le_succ _) [.int .i64 6, .int .i64 4, .int .i64 0, .string ⟨#[]⟩, .slice none 0 0, .slice none 0 0, .slice none 0 0] _ 0 L9.out⟩
        · have HK : Hid (sumD d = leafD 1 acc 0 ⟨#[]⟩) := by unfold Hid; rw [HD.out, hsm.out, sumL_end hlt]
          have o0A := hO.cell (j := 0) rfl
          have o1A := hO.cell (j := 1) rfl
          have o2A := hO.cell (j := 2) rfl
          have o3A := hO.cell (j := 3) rfl
          have o4A := hO.cell (j := 4) rfl
          have o5A := hO.cell (j := 5) rfl
          have o6A := hO.cell (j := 6) rfl
          have ozA := hO.lt
          have r0 := hR.cell (j := 0) rfl
          have f0 := hR.free 0
          have r1 := hR.cell (j := 1) rfl
          have f1 := hR.free 1
          have r2 := hR.cell (j := 2) rfl
          have f2 := hR.free 2
          have r3 := hR.cell (j := 3) rfl
          have f3 := hR.free 3
          have r4 := hR.cell (j := 4) rfl
          have f4 := hR.free 4
          have r5 := hR.cell (j := 5) rfl
          have f5 := hR.free 5
          have r6 := hR.cell (j := 6) rfl
          have f6 := hR.free 6
          have rz := hR.lt
          clear hsm hR hP hO
          go_wp2_with fail
          exact bodyPost_ret (v := leafA 1 acc 0 ⟨#[]⟩) (by simp [results, Try.results21, go_sem, leafA, r0, r1, r2, r3, r4, r5, r6]) rfl ⟨leaf_out W HK.out (by unfold Between64; omega) (by unfold Between64; omega) (by unfold Between64; omega) (by decide), later_setFrom (Nat.le_succ _) [.int .i64 1, .int .i64 acc, .int .i64 0, .string ⟨#[]⟩, .slice none 0 0, .slice none 0 0, .slice none 0 0] _ 0 HLJ.out⟩
    · rw [if_neg hk3] at hsum
      have HK := Lib.hid hsum
      have e3 : (k == 3) = false := by simpa using hk3
      have e3' : (k != 3) = true := by simpa using hk3
      have RB := Lib.hid (R.later ((Later.rfl' _).alloc (.cells #[.int .i64 z0, .int .i64 z1, .int .i64 z2, .string z3, .slice E1 u1 m1, .slice E2 u2 m2, .slice E3 u3 m3] 28))); have LB := Lib.hid (L.alloc (.cells #[.int .i64 z0, .int .i64 z1, .int .i64 z2, .string z3, .slice E1 u1 m1, .slice E2 u2 m2, .slice E3 u3 m3] 28))
      have q0 := (P.later ((Later.rfl' _).alloc (.cells #[.int .i64 z0, .int .i64 z1, .int .i64 z2, .string z3, .slice E1 u1 m1, .slice E2 u2 m2, .slice E3 u3 m3] 28))).cell (j := 0) rfl
      clear hsum hvn hEr P R L hk3
      go_wp2_with fail
      refine (specErrorValue 4 _).mono ?_; rintro e w9 ⟨rfl, hb9⟩
      unfold leafA
      have R9 := (RB.out).later hb9
      have L9 := Lib.hid ((LB.out).trans hb9)
      have r0 := R9.cell (j := 0) rfl
      have f0 := R9.free 0
      have r1 := R9.cell (j := 1) rfl
      have f1 := R9.free 1
      have r2 := R9.cell (j := 2) rfl
      have f2 := R9.free 2
      have r3 := R9.cell (j := 3) rfl
      have f3 := R9.free 3
      have r4 := R9.cell (j := 4) rfl
      have f4 := R9.free 4
      have r5 := R9.cell (j := 5) rfl
      have f5 := R9.free 5
      have r6 := R9.cell (j := 6) rfl
      have f6 := R9.free 6
      have rz := R9.lt
      clear R9 hb9
      go_wp2_with fail
      exact bodyPost_ret (v := leafA 6 4 0 ⟨#[]⟩) (by simp [results, Try.results21, go_sem, leafA, r0, r1, r2, r3, r4, r5, r6]) rfl ⟨leaf_out W HK.out (by unfold Between64; omega) (by unfold Between64; omega) (by unfold Between64; omega) (by decide), later_setFrom (Nat.le_succ _) [.int .i64 6, .int .i64 4, .int .i64 0, .string ⟨#[]⟩, .slice none 0 0, .slice none 0 0, .slice none 0 0] _ 0 L9.out⟩


set_option maxHeartbeats 8000000 in
theorem implSumOf (d : Vl) (hcost : d.cost ≤ 1099511627776) (W : World) (S : Nat → Prop) (cs : List Value) (h : Ats W S (encV d) cs) : Calls Try.prog 20 #[.agg cs.toArray] W fun r w' => LeafOut W (sumD d) r ∧ Later W w' := by
  have C := fun w g (hB : Box w g cs) (hl : Later W w) => implErr1 d hcost W S cs h w g hB hl
  have hvn : errOf d = none → d.kind = 3 → ∀ x, x ∈ d.list → x.kind = 1 → -1000000000 ≤ x.n ∧ x.n ≤ 1000000000 := fun he hk x hx hx1 => valid_num (valid_list (errOf_none he).1 hk x hx) hx1
  obtain ⟨k, n, s, t, l, cl, r, hd⟩ := Vl.shape d
  obtain ⟨A1, c1, A2, c2, A3, c3, rfl, hb4, ⟨p1, q1⟩, ⟨p2, q2⟩, ⟨p3, q3⟩, g1, g2, g3⟩ := (hd ▸ h : Ats W S (encV (.mk k n s t l cl r)) cs).val
  have hdk : d.kind = k := by rw [hd]; rfl
  have hdl : d.list = l := by rw [hd]; rfl
  rw [hdl] at hvn
  rw [hdk] at hvn
  have hsum : sumD d = match errOf d with | some n => leafD 6 n 0 ⟨#[]⟩ | none => if k = 3 then sumL l 0 else leafD 6 4 0 ⟨#[]⟩ := by unfold sumD; rw [hdk, hdl]
  have HE := Lib.hid g1
  obtain ⟨E, hE⟩ : ∃ E, E = errOf d := ⟨_, rfl⟩
  rw [← hE] at hsum hvn
  simp only [← hE] at C
  have HC := Lib.hid C
  clear C hE hd hdk hdl h g1 g2 g3 hb4 hcost
  have BX : Box (((W.alloc (.cells #[.int .i64 k, .int .i64 n, .int .i64 s, .string t, .slice A1 l.length c1, .slice A2 cl.length c2, .slice A3 r.length c3] 28)).alloc (.cells #[.int .i64 0, .int .i64 0, .int .i64 0, .string ⟨#[]⟩, .slice none 0 0, .slice none 0 0, .slice none 0 0] 28)).alloc (.cells #[.int .i64 k, .int .i64 n, .int .i64 s, .string t, .slice A1 l.length c1, .slice A2 cl.length c2, .slice A3 r.length c3] 28)) (W.heap.size + 1 + 1) [.int .i64 k, .int .i64 n, .int .i64 s, .string t, .slice A1 l.length c1, .slice A2 cl.length c2, .slice A3 r.length c3] := (box3 (Later.rfl' _)).2.2.1
  have HBX := Lib.hid BX
  clear BX
  go_enter Try.func20, Try.ntmps20
  go_wp2_with fail
  refine (HC.out _ _ HBX.out ((((Later.rfl' _).alloc _).alloc _).alloc _)).mono ?_; rintro e w1 ⟨⟨z0, z1, z2, z3, E1, u1, m1, E2, u2, m2, E3, u3, m3, rfl, hEr⟩, hb1⟩
  obtain ⟨P, R, _, hs, L⟩ := box3 hb1
  clear hb1 HBX HC
  cases E with
  | some m =>
    have HEr := Lib.hid (hEr m rfl)
    simp only at hsum
    have HK := Lib.hid hsum
    have R := R.later ((Later.rfl' _).alloc (.cells #[.int .i64 z0, .int .i64 z1, .int .i64 z2, .string z3, .slice E1 u1 m1, .slice E2 u2 m2, .slice E3 u3 m3] 28))
    have L := Lib.hid (L.alloc (.cells #[.int .i64 z0, .int .i64 z1, .int .i64 z2, .string z3, .slice E1 u1 m1, .slice E2 u2 m2, .slice E3 u3 m3] 28))
    clear hEr hsum hvn P
    have r0 := R.cell (j := 0) rfl
    have f0 := R.free 0
    have r1 := R.cell (j := 1) rfl
    have f1 := R.free 1
    have r2 := R.cell (j := 2) rfl
    have f2 := R.free 2
    have r3 := R.cell (j := 3) rfl
    have f3 := R.free 3
    have r4 := R.cell (j := 4) rfl
    have f4 := R.free 4
    have r5 := R.cell (j := 5) rfl
    have f5 := R.free 5
    have r6 := R.cell (j := 6) rfl
    have f6 := R.free 6
    have rz := R.lt
    clear R
    go_wp2_with fail
    exact bodyPost_ret (v := .agg #[.int .i64 z0, .int .i64 z1, .int .i64 z2, .string z3, .slice E1 u1 m1, .slice E2 u2 m2, .slice E3 u3 m3]) (by simp [results, Try.results20, go_sem, r0, r1, r2, r3, r4, r5, r6]) rfl ⟨⟨_, _, _, _, _, _, _, _, _, _, _, _, _, rfl, fun w hw => by rw [HK.out]; exact HEr.out.2 w hw⟩, later_setFrom (Nat.le_succ _) [.int .i64 z0, .int .i64 z1, .int .i64 z2, .string z3, .slice E1 u1 m1, .slice E2 u2 m2, .slice E3 u3 m3] _ 0 L.out⟩
  | none =>
    simp only at hsum
    by_cases hk3 : k = 3
    · subst hk3
      have HVN := Lib.hid (hvn rfl rfl)
      rw [if_pos rfl] at hsum
      have HD := Lib.hid hsum
      clear hsum hvn hEr
      have HRQ := Lib.hid (R.later ((Later.rfl' _).alloc (.cells #[.int .i64 z0, .int .i64 z1, .int .i64 z2, .string z3, .slice E1 u1 m1, .slice E2 u2 m2, .slice E3 u3 m3] 28))); have HPQ := Lib.hid (P.later ((Later.rfl' _).alloc (.cells #[.int .i64 z0, .int .i64 z1, .int .i64 z2, .string z3, .slice E1 u1 m1, .slice E2 u2 m2, .slice E3 u3 m3] 28))); have HLQ := Lib.hid (L.alloc (.cells #[.int .i64 z0, .int .i64 z1, .int .i64 z2, .string z3, .slice E1 u1 m1, .slice E2 u2 m2, .slice E3 u3 m3] 28))
      have q0 := (P.later ((Later.rfl' _).alloc (.cells #[.int .i64 z0, .int .i64 z1, .int .i64 z2, .string z3, .slice E1 u1 m1, .slice E2 u2 m2, .slice E3 u3 m3] 28))).cell (j := 0) rfl
      have q4 := (P.later ((Later.rfl' _).alloc (.cells #[.int .i64 z0, .int .i64 z1, .int .i64 z2, .string z3, .slice E1 u1 m1, .slice E2 u2 m2, .slice E3 u3 m3] 28))).cell (j := 4) rfl
      clear P R L hs
      go_wp2_with fail
      go_loopw [5, 23] (fun sm i wr => ∃ (j : Nat) (acc : Int), j ≤ l.length ∧ i = .int .i64 (j : Int) ∧ sm = .int .i64 acc ∧ (-1000000000 ≤ acc ∧ acc ≤ 1000000000) ∧ Hid (sumL l 0 = sumL (l.drop j) acc) ∧ Later (w1.alloc (.cells #[.int .i64 z0, .int .i64 z1, .int .i64 z2, .string z3, .slice E1 u1 m1, .slice E2 u2 m2, .slice E3 u3 m3] 28)) wr) (fun _ i _ => l.length - (intOf i).toNat)
      case atStart => exact ⟨0, 0, Nat.zero_le _, rfl, rfl, by omega, rfl, Later.rfl' _⟩
      case round =>
        obtain ⟨j, acc, hj, rfl, rfl, hac, hsm, hw⟩ := hrel
        have HRJ := Lib.hid (HRQ.out.later hw); have HLJ := Lib.hid (HLQ.out.trans hw)
        have HWJ := Lib.hid hw
        clear hw
        by_cases hlt : j < l.length
        · obtain ⟨b, off, y0, y1, y2, y3, B1, n1, d1, B2, n2, d2, B3, n3, d3, rfl, hb, _, hx, e0, e1, e2, e3, e4, e5, e6⟩ := (HE.out.later HLJ.out).valAt hlt
          have hkn := ats_kn hx
          have hki : (j : Int) < (l.length : Int) := by omega
          clear hx
          by_cases hy : y0 = 1
          · subst hy
            have hyb := HVN.out _ (List.getElem_mem hlt) hkn.1
            rw [hkn.2] at hyb
            cases hq : numV (acc + y1) with
            | true =>
              have HN : Hid (sumL l 0 = sumL (l.drop (j + 1)) (acc + y1)) := by unfold Hid; rw [hsm.out, sumL_one hlt hkn.1 (by rw [hkn.2]; exact hq), hkn.2]
              have hq2 := numV_iff.1 hq
              have C := fun w => implNumV (acc + y1) true hq w
              have HC := Lib.hid C
              clear C hq hsm hkn
              go_wp2_with fail
              refine (HC.out _).mono ?_; rintro e w2 ⟨rfl, rfl⟩
              go_wp2_with fail
              go_roundw
              case rel => exact ⟨j + 1, acc + y1, by omega, by go_num, rfl, by omega, HN, by have := HWJ.out; exact this.alloc _⟩
              case measure => simp [intOf]; omega
            | false =>
              have HK : Hid (sumD d = leafD 6 5 0 ⟨#[]⟩) := by unfold Hid; rw [HD.out, hsm.out, sumL_big hlt hkn.1 (by rw [hkn.2]; exact hq)]
              have C := fun w => implNumV (acc + y1) false hq w
              have HC := Lib.hid C
              clear C hq hsm hkn
              go_wp2_with fail
              refine (HC.out _).mono ?_; rintro e w2 ⟨rfl, rfl⟩
              go_wp2_with fail
              refine (implErrorValue 5 _).mono ?_; rintro e w9 ⟨rfl, hb9⟩
              unfold leafA
              have R9 := (HRJ.out.later ((Later.rfl' _).alloc _)).later hb9
              have L9 := Lib.hid ((HLJ.out.alloc _).trans hb9)
              have r0 := R9.cell (j := 0) rfl
              have f0 := R9.free 0
              have r1 := R9.cell (j := 1) rfl
              have f1 := R9.free 1
              have r2 := R9.cell (j := 2) rfl
              have f2 := R9.free 2
              have r3 := R9.cell (j := 3) rfl
              have f3 := R9.free 3
              have r4 := R9.cell (j := 4) rfl
              have f4 := R9.free 4
              have r5 := R9.cell (j := 5) rfl
              have f5 := R9.free 5
              have r6 := R9.cell (j := 6) rfl
              have f6 := R9.free 6
              have rz := R9.lt
              clear R9 hb9
              go_wp2_with fail
              exact bodyPost_ret (v := leafA 6 5 0 ⟨#[]⟩) (by simp [results, Try.results20, go_sem, leafA, r0, r1, r2, r3, r4, r5, r6]) rfl ⟨leaf_out W HK.out (by unfold Between64; omega) (by unfold Between64; omega) (by unfold Between64; omega) (by decide), later_setFrom (Nat.le_succ _) [.int .i64 6, .int .i64 5, .int .i64 0, .string ⟨#[]⟩, .slice none 0 0, .slice none 0 0, .slice none 0 0] _ 0 L9.out⟩
          · have HK : Hid (sumD d = leafD 6 4 0 ⟨#[]⟩) := by unfold Hid; rw [HD.out, hsm.out, sumL_bad hlt (by rw [hkn.1]; exact hy)]
            have e1' : (y0 == 1) = false := by simpa using hy
            have e1'' : (y0 != 1) = true := by simpa using hy
            clear hsm hkn hy
            go_wp2_with fail
            refine (implErrorValue 4 _).mono ?_; rintro e w9 ⟨rfl, hb9⟩
            unfold leafA
            have R9 := (HRJ.out.later ((Later.rfl' _).alloc _)).later hb9
            have L9 := Lib.hid ((HLJ.out.alloc _).trans hb9)
            have r0 := R9.cell (j := 0) rfl
            have f0 := R9.free 0
            have r1 := R9.cell (j := 1) rfl
            have f1 := R9.free 1
            have r2 := R9.cell (j := 2) rfl
            have f2 := R9.free 2
            have r3 := R9.cell (j := 3) rfl
            have f3 := R9.free 3
            have r4 := R9.cell (j := 4) rfl
            have f4 := R9.free 4
            have r5 := R9.cell (j := 5) rfl
            have f5 := R9.free 5
            have r6 := R9.cell (j := 6) rfl
            have f6 := R9.free 6
            have rz := R9.lt
            clear R9 hb9
            go_wp2_with fail
            exact bodyPost_ret (v := leafA 6 4 0 ⟨#[]⟩) (by simp [results, Try.results20, go_sem, leafA, r0, r1, r2, r3, r4, r5, r6]) rfl ⟨leaf_out W HK.out (by unfold Between64; omega) (by unfold Between64; omega) (by unfold Between64; omega) (by decide), later_setFrom (Nat.le_succ _) [.int .i64 6, .int .i64 4, .int .i64 0, .string ⟨#[]⟩, .slice none 0 0, .slice none 0 0, .slice none 0 0] _ 0 L9.out⟩
        · have HK : Hid (sumD d = leafD 1 acc 0 ⟨#[]⟩) := by unfold Hid; rw [HD.out, hsm.out, sumL_end hlt]
          clear hsm
          go_wp2_with fail
          refine (implNumberValue acc _).mono ?_; rintro e w9 ⟨rfl, hb9⟩
          unfold leafA
          have R9 := (HRJ.out).later hb9
          have L9 := Lib.hid ((HLJ.out).trans hb9)
          have r0 := R9.cell (j := 0) rfl
          have f0 := R9.free 0
          have r1 := R9.cell (j := 1) rfl
          have f1 := R9.free 1
          have r2 := R9.cell (j := 2) rfl
          have f2 := R9.free 2
          have r3 := R9.cell (j := 3) rfl
          have f3 := R9.free 3
          have r4 := R9.cell (j := 4) rfl
          have f4 := R9.free 4
          have r5 := R9.cell (j := 5) rfl
          have f5 := R9.free 5
          have r6 := R9.cell (j := 6) rfl
          have f6 := R9.free 6
          have rz := R9.lt
          clear R9 hb9
          go_wp2_with fail
          exact bodyPost_ret (v := leafA 1 acc 0 ⟨#[]⟩) (by simp [results, Try.results20, go_sem, leafA, r0, r1, r2, r3, r4, r5, r6]) rfl ⟨leaf_out W HK.out (by unfold Between64; omega) (by unfold Between64; omega) (by unfold Between64; omega) (by decide), later_setFrom (Nat.le_succ _) [.int .i64 1, .int .i64 acc, .int .i64 0, .string ⟨#[]⟩, .slice none 0 0, .slice none 0 0, .slice none 0 0] _ 0 L9.out⟩
    · rw [if_neg hk3] at hsum
      have HK := Lib.hid hsum
      have e3 : (k == 3) = false := by simpa using hk3
      have e3' : (k != 3) = true := by simpa using hk3
      have RB := Lib.hid (R.later ((Later.rfl' _).alloc (.cells #[.int .i64 z0, .int .i64 z1, .int .i64 z2, .string z3, .slice E1 u1 m1, .slice E2 u2 m2, .slice E3 u3 m3] 28))); have LB := Lib.hid (L.alloc (.cells #[.int .i64 z0, .int .i64 z1, .int .i64 z2, .string z3, .slice E1 u1 m1, .slice E2 u2 m2, .slice E3 u3 m3] 28))
      have q0 := (P.later ((Later.rfl' _).alloc (.cells #[.int .i64 z0, .int .i64 z1, .int .i64 z2, .string z3, .slice E1 u1 m1, .slice E2 u2 m2, .slice E3 u3 m3] 28))).cell (j := 0) rfl
      clear hsum hvn hEr P R L hk3
      go_wp2_with fail
      refine (implErrorValue 4 _).mono ?_; rintro e w9 ⟨rfl, hb9⟩
      unfold leafA
      have R9 := (RB.out).later hb9
      have L9 := Lib.hid ((LB.out).trans hb9)
      have r0 := R9.cell (j := 0) rfl
      have f0 := R9.free 0
      have r1 := R9.cell (j := 1) rfl
      have f1 := R9.free 1
      have r2 := R9.cell (j := 2) rfl
      have f2 := R9.free 2
      have r3 := R9.cell (j := 3) rfl
      have f3 := R9.free 3
      have r4 := R9.cell (j := 4) rfl
      have f4 := R9.free 4
      have r5 := R9.cell (j := 5) rfl
      have f5 := R9.free 5
      have r6 := R9.cell (j := 6) rfl
      have f6 := R9.free 6
      have rz := R9.lt
      clear R9 hb9
      go_wp2_with fail
      exact bodyPost_ret (v := leafA 6 4 0 ⟨#[]⟩) (by simp [results, Try.results20, go_sem, leafA, r0, r1, r2, r3, r4, r5, r6]) rfl ⟨leaf_out W HK.out (by unfold Between64; omega) (by unfold Between64; omega) (by unfold Between64; omega) (by decide), later_setFrom (Nat.le_succ _) [.int .i64 6, .int .i64 4, .int .i64 0, .string ⟨#[]⟩, .slice none 0 0, .slice none 0 0, .slice none 0 0] _ 0 L9.out⟩

end Go.Proofs.Ytghemlokpfipoaa
namespace Go.Proofs.Ytghemlokpfipoaa
set_option linter.unusedVariables false
set_option linter.unusedSimpArgs false

def chkD (n : Int) : Vl := leafD (if numV n = true then 1 else 6) (if numV n = true then n else 5) 0 ⟨#[]⟩
def truthD (b : Bool) : Vl := leafD 1 (if b then 1 else 0) 0 ⟨#[]⟩
def errD (n : Int) : Vl := leafD 6 n 0 ⟨#[]⟩
def addL (d d' : Vl) : Vl := if d.list.length + d'.list.length ≤ 8 then listD (d.list ++ d'.list) else errD 6
def addT (d d' : Vl) : Vl := if d.text.size + d'.text.size ≤ 20 then leafD 2 0 0 (d.text ++ d'.text) else errD 6
def addD (d d' : Vl) : Vl := if d.kind = 1 ∧ d'.kind = 1 then chkD (d.n + d'.n) else if d.kind = 2 ∧ d'.kind = 2 then addT d d' else if d.kind = 3 ∧ d'.kind = 3 then addL d d' else errD 4
/-- Is a text before another? -/
def textLt (s t : ByteArray) : Bool := Op.bytesLess s.toList t.toList
def lessD (d d' : Vl) : Vl := if d.kind = 1 ∧ d'.kind = 1 then truthD (decide (d.n < d'.n)) else if d.kind = 2 ∧ d'.kind = 2 then truthD (textLt d.text d'.text) else errD 4
/-- What an operator answers where no operand is an error. -/
def applyN (op : Int) (d d' : Vl) : Vl :=
  if op = 1 then addD d d' else if op = 4 then lessD d d' else if op = 5 then truthD (Vl.same false d d')
  else if op = 2 ∧ d.kind = 1 ∧ d'.kind = 1 then chkD (d.n - d'.n) else if op = 3 ∧ d.kind = 1 ∧ d'.kind = 1 then chkD (d.n * d'.n) else errD 4
def applyD (op : Int) (d d' : Vl) : Vl := match firstE [d, d'] with | some m => errD m | none => applyN op d d'

theorem empty_list : (⟨#[]⟩ : ByteArray).toList = [] := by rw [ByteArray.toList_eq]
theorem valid_errD {n : Int} (h1 : 1 ≤ n) (h2 : n ≤ 8) : (errD n).valid = true := by
  unfold errD leafD
  rw [Vl.valid]
  simp [empty_list, h1, h2]
theorem valid_chkD (n : Int) : (chkD n).valid = true := by
  unfold chkD
  cases h : numV n with
  | true =>
    simp only [if_true]
    unfold leafD
    rw [Vl.valid]
    simp [empty_list, h]
  | false =>
    simp only [Bool.false_eq_true, if_false]
    exact valid_errD (by omega) (by omega)
theorem valid_truthD (b : Bool) : (truthD b).valid = true := by
  unfold truthD leafD
  rw [Vl.valid]
  cases b <;> simp [empty_list, numV]
theorem valids_app (a b : List Vl) : Vl.valids (a ++ b) = (Vl.valids a && Vl.valids b) := by rw [valids_eq, valids_eq, valids_eq, List.all_append]
theorem validText_app {s t : ByteArray} (h1 : validText s = true) (h2 : validText t = true) (h : s.size + t.size ≤ 20) : validText (s ++ t) = true := by
  unfold validText at *
  simp only [Bool.and_eq_true, decide_eq_true_eq] at *
  refine ⟨?_, by rw [ByteArray.size_append]; exact h⟩
  rw [ByteArray.data_append, Array.toList_append, List.all_append, h1.1, h2.1]
  rfl
theorem valid_kind2 {d : Vl} (hv : d.valid = true) (hk : d.kind = 2) : validText d.text = true := by
  obtain ⟨k, n, s, t, l, c, r, rfl⟩ := Vl.shape d
  simp only [Vl.kind] at hk
  subst hk
  rw [Vl.valid] at hv
  simp only [show ¬ (2 : Int) = 1 by decide, if_false, if_true, Bool.and_eq_true] at hv
  exact hv.2.2.2
theorem valid_kind3 {d : Vl} (hv : d.valid = true) (hk : d.kind = 3) : Vl.valids d.list = true ∧ d.list.length ≤ 8 ∧ Vl.depths d.list ≤ 2 := by
  obtain ⟨k, n, s, t, l, c, r, rfl⟩ := Vl.shape d
  simp only [Vl.kind] at hk
  subst hk
  rw [Vl.valid] at hv
  simp only [show ¬ (3 : Int) = 1 by decide, show ¬ (3 : Int) = 2 by decide, show ¬ (3 : Int) = 4 by decide, show ¬ (3 : Int) = 6 by decide, show ¬ (3 : Int) = 5 by decide, if_false, if_true, Bool.and_eq_true, decide_eq_true_eq] at hv
  exact hv.2
theorem valid_listD {l : List Vl} (h1 : Vl.valids l = true) (h2 : l.length ≤ 8) (h3 : Vl.depths l ≤ 2) : (listD l).valid = true := by
  unfold listD
  rw [Vl.valid]
  simp [empty_list, h1, h2, h3]
theorem valid_addL {d d' : Vl} (h1 : d.valid = true) (h2 : d'.valid = true) (k1 : d.kind = 3) (k2 : d'.kind = 3) : (addL d d').valid = true := by
  unfold addL
  split
  · obtain ⟨a1, a2, a3⟩ := valid_kind3 h1 k1
    obtain ⟨b1, b2, b3⟩ := valid_kind3 h2 k2
    refine valid_listD (by rw [valids_app, a1, b1]; rfl) (by rw [List.length_append]; assumption) (by rw [vdepths_append]; omega)
  · exact valid_errD (by omega) (by omega)
theorem valid_addT {d d' : Vl} (h1 : d.valid = true) (h2 : d'.valid = true) (k1 : d.kind = 2) (k2 : d'.kind = 2) : (addT d d').valid = true := by
  unfold addT
  split
  · have := validText_app (valid_kind2 h1 k1) (valid_kind2 h2 k2) (by assumption)
    unfold leafD
    rw [Vl.valid]
    simp [this]
  · exact valid_errD (by omega) (by omega)
theorem valid_applyN (op : Int) {d d' : Vl} (h1 : d.valid = true) (h2 : d'.valid = true) : (applyN op d d').valid = true := by
  unfold applyN addD lessD
  repeat' split
  all_goals first
    | exact valid_chkD _
    | exact valid_truthD _
    | exact valid_errD (by omega) (by omega)
    | (rename_i h; exact valid_addT h1 h2 h.1 h.2)
    | (rename_i h; exact valid_addL h1 h2 h.1 h.2)
theorem first_two_none {d d' : Vl} (h : firstE [d, d'] = none) : errOf d = none ∧ errOf d' = none := by
  rw [first_two] at h
  cases he : errOf d with
  | some n => rw [he] at h; cases h
  | none => rw [he] at h; exact ⟨rfl, h⟩
theorem err_range {d : Vl} {n : Int} (h : errOf d = some n) : 1 ≤ n ∧ n ≤ 8 := by
  unfold errOf at h
  split at h
  · split at h
    · rename_i hv hk
      cases h
      have := valid_err hv hk
      rw [this] at hv
      unfold leafD at hv
      rw [Vl.valid] at hv
      simp at hv
      exact ⟨hv.1, hv.2⟩
    · cases h
  · cases h; omega
theorem first_range {d d' : Vl} {n : Int} (h : firstE [d, d'] = some n) : 1 ≤ n ∧ n ≤ 8 := by
  rw [first_two] at h
  cases he : errOf d with
  | some m => rw [he] at h; cases h; exact err_range he
  | none => rw [he] at h; exact err_range h
theorem valid_applyD (op : Int) (d d' : Vl) : (applyD op d d').valid = true := by
  unfold applyD
  cases h : firstE [d, d'] with
  | some m => exact valid_errD (first_range h).1 (first_range h).2
  | none =>
    obtain ⟨h1, h2⟩ := first_two_none h
    exact valid_applyN op (errOf_none h1).1 (errOf_none h2).1
end Go.Proofs.Ytghemlokpfipoaa
