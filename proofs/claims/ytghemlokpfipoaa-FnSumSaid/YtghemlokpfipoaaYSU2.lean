/-
  The law FnSum: its walk.
-/
import Derived.Test.YtghemlokpfipoaaYSU1
import Derived.Test.YtghemlokpfipoaaYVD5
import Derived.Test.YtghemlokpfipoaaYVL
import Derived.Deep.RegionHeld3
namespace Go.Proofs.Ytghemlokpfipoaa
open Go.ChangeShapes Go.WideShapes Go.ChangeAt Go.RowKit
set_option linter.unusedVariables false
set_option linter.unusedSimpArgs false
set_option maxRecDepth 100000

theorem sumL_kind {l : List Vl} {j : Nat} {acc : Int} (hj : j < l.length) (h : (sumL (l.drop j) acc).kind = 1) : l[j].kind = 1 ∧ numV (acc + l[j].n) = true := by
  rw [List.drop_eq_getElem_cons hj, sumL] at h
  split at h
  · split at h
    · exact ⟨by assumption, by assumption⟩
    · exact absurd h (by decide)
  · exact absurd h (by decide)
theorem sumD_list {d : Vl} (hk : d.kind = 3) (h : (sumD d).kind = 1) : sumD d = sumL d.list 0 := by
  unfold sumD at *
  cases he : errOf d with
  | some n => rw [he] at h; exact absurd h (by decide : ¬ (6 : Int) = 1)
  | none => simp only; rw [if_pos hk]

set_option maxHeartbeats 20000000 in
theorem walk_FnSum (v : Value) (n : Nat) (w : World) (h : BytesAt w v n) : Calls Try.prog 4 #[v] w fun r w' => r = .returned (.bool true) ∧ Later w w' := by
  by_cases hbig : 1048576 < n
  · have C0 := bigBytes v n w h
    rw [show decide (1048576 < n) = true by simp; omega] at C0
    have HB := Lib.hid C0
    clear C0 hbig h
    go_enter Try.func4, Try.ntmps4
    go_wp2_with fail
    refine HB.out.mono ?_; rintro e w1 ⟨rfl, hb1⟩
    go_wp2_with fail
    go_ret
    exact ⟨rfl, hb1⟩
  · have C0 := bigBytes v n w h
    rw [show decide (1048576 < n) = false by simp; omega] at C0
    have hle : n ≤ 1048576 := by omega
    have C1 := fun W (hW : Later w W) => drawSumOf v n W (BytesAt.later h hW) hle
    have HB := Lib.hid C0; have HD := Lib.hid C1
    clear C0 C1 hbig hle h
    go_enter Try.func4, Try.ntmps4
    go_wp2_with fail
    refine HB.out.mono ?_; rintro e w1 ⟨rfl, hb⟩
    have L := Lib.hid hb; clear hb HB
    go_wp2_with fail
    refine (HD.out _ L.out).mono ?_; rintro e w2 ⟨⟨d, z0, z1, z2, z3, A1, z4, z7, A2, z5, z8, A3, z6, z9, rfl, hat, hcost⟩, hb⟩
    have HLW := Lib.hid (L.out.trans hb)
    have CI := fun W' (hW' : Later w2 W') => implSumOf d (by omega) W' anyB _ (hat.later hW')
    have CS := fun W' (hW' : Later w2 W') => specSumOf d (by omega) W' anyB _ (hat.later hW')
    have hdk : d.kind = z0 := (ats_kn hat).1
    have hsk : d.kind = 3 → (sumD d).kind = 1 → sumD d = sumL d.list 0 := sumD_list
    obtain ⟨K, hK⟩ : ∃ K, K = sumD d := ⟨_, rfl⟩
    simp only [← hK] at CI CS hsk
    have CE := fun W' S S' cs cs' (a : Ats W' S (encV K) cs) (b : Ats W' S' (encV K) cs') => specEqualValue K K W' S S' cs cs' a b
    simp only [vl_same_self] at CE
    have HI := Lib.hid CI; have HSU := Lib.hid CS; have HEQ := Lib.hid CE; have HAT := Lib.hid hat; have HDK := Lib.hid hdk; have HSK := Lib.hid hsk
    clear hb L HD CI CS CE hK hdk hsk hat hcost
    go_wp2_with fail
    refine (HI.out _ ((Later.rfl' _).alloc _)).mono ?_; rintro e w3 ⟨⟨y0, y1, y2, y3, B1, y4, y7, B2, y5, y8, B3, y6, y9, rfl, hs⟩, hb3⟩
    have BV := ((box_alloc w2 #[.int .i64 z0, .int .i64 z1, .int .i64 z2, .string z3, .slice A1 z4 z7, .slice A2 z5 z8, .slice A3 z6 z9] 28).later hb3).later ((Later.rfl' w3).alloc (.cells #[.int .i64 y0, .int .i64 y1, .int .i64 y2, .string y3, .slice B1 y4 y7, .slice B2 y5 y8, .slice B3 y6 y9] 28))
    have BS := box_alloc w3 #[.int .i64 y0, .int .i64 y1, .int .i64 y2, .string y3, .slice B1 y4 y7, .slice B2 y5 y8, .slice B3 y6 y9] 28
    have hky := ats_kn (hs w3 hb3)
    have HS := Lib.hid hs
    have HLS := Lib.hid (hb3.trans ((Later.rfl' w3).alloc (.cells #[.int .i64 y0, .int .i64 y1, .int .i64 y2, .string y3, .slice B1 y4 y7, .slice B2 y5 y8, .slice B3 y6 y9] 28)))
    have HLQ := Lib.hid ((((Later.rfl' w2).alloc (.cells #[.int .i64 z0, .int .i64 z1, .int .i64 z2, .string z3, .slice A1 z4 z7, .slice A2 z5 z8, .slice A3 z6 z9] 28)).trans hb3).trans ((Later.rfl' w3).alloc (.cells #[.int .i64 y0, .int .i64 y1, .int .i64 y2, .string y3, .slice B1 y4 y7, .slice B2 y5 y8, .slice B3 y6 y9] 28)))
    replace HLW := Lib.hid (HLW.out.trans HLQ.out)
    replace HAT := Lib.hid (HAT.out.later HLQ.out)
    have HKY := Lib.hid hky
    clear hb3 hs hky HI
    by_cases hz : z0 = 3
    · subst hz
      by_cases hy : y0 = 1
      · subst hy
        have v0 := BV.cell (j := 0) rfl
        have v1 := BV.cell (j := 1) rfl
        have v2 := BV.cell (j := 2) rfl
        have v3 := BV.cell (j := 3) rfl
        have v4 := BV.cell (j := 4) rfl
        have v5 := BV.cell (j := 5) rfl
        have v6 := BV.cell (j := 6) rfl
        have s0 := BS.cell (j := 0) rfl
        have s1 := BS.cell (j := 1) rfl
        have s2 := BS.cell (j := 2) rfl
        have s3 := BS.cell (j := 3) rfl
        have s4 := BS.cell (j := 4) rfl
        have s5 := BS.cell (j := 5) rfl
        have s6 := BS.cell (j := 6) rfl
        have vz := BV.lt
        have sz := BS.lt
        go_wp2_with fail
        go_region_held3 (fun w' => w'.cell? ⟨w2.heap.size, 0, none⟩ = some (.int .i64 3) ∧ w'.cell? ⟨w2.heap.size, 1, none⟩ = some (.int .i64 z1) ∧ w'.cell? ⟨w2.heap.size, 2, none⟩ = some (.int .i64 z2) ∧ w'.cell? ⟨w2.heap.size, 3, none⟩ = some (.string z3) ∧ w'.cell? ⟨w2.heap.size, 4, none⟩ = some (.slice A1 z4 z7) ∧ w'.cell? ⟨w2.heap.size, 5, none⟩ = some (.slice A2 z5 z8) ∧ w'.cell? ⟨w2.heap.size, 6, none⟩ = some (.slice A3 z6 z9) ∧ w'.cell? ⟨w3.heap.size, 0, none⟩ = some (.int .i64 1) ∧ w'.cell? ⟨w3.heap.size, 1, none⟩ = some (.int .i64 y1) ∧ w'.cell? ⟨w3.heap.size, 2, none⟩ = some (.int .i64 y2) ∧ w'.cell? ⟨w3.heap.size, 3, none⟩ = some (.string y3) ∧ w'.cell? ⟨w3.heap.size, 4, none⟩ = some (.slice B1 y4 y7) ∧ w'.cell? ⟨w3.heap.size, 5, none⟩ = some (.slice B2 y5 y8) ∧ w'.cell? ⟨w3.heap.size, 6, none⟩ = some (.slice B3 y6 y9))
          (first | exact ⟨v0, v1, v2, v3, v4, v5, v6, s0, s1, s2, s3, s4, s5, s6⟩ | exact ⟨kept_cell hb4 v0, kept_cell hb4 v1, kept_cell hb4 v2, kept_cell hb4 v3, kept_cell hb4 v4, kept_cell hb4 v5, kept_cell hb4 v6, kept_cell hb4 s0, kept_cell hb4 s1, kept_cell hb4 s2, kept_cell hb4 s3, kept_cell hb4 s4, kept_cell hb4 s5, kept_cell hb4 s6⟩ | exact ⟨kept_cell hb5 (kept_cell hb4 v0), kept_cell hb5 (kept_cell hb4 v1), kept_cell hb5 (kept_cell hb4 v2), kept_cell hb5 (kept_cell hb4 v3), kept_cell hb5 (kept_cell hb4 v4), kept_cell hb5 (kept_cell hb4 v5), kept_cell hb5 (kept_cell hb4 v6), kept_cell hb5 (kept_cell hb4 s0), kept_cell hb5 (kept_cell hb4 s1), kept_cell hb5 (kept_cell hb4 s2), kept_cell hb5 (kept_cell hb4 s3), kept_cell hb5 (kept_cell hb4 s4), kept_cell hb5 (kept_cell hb4 s5), kept_cell hb5 (kept_cell hb4 s6)⟩)
          (first | (go_at_call 21; refine (HSU.out _ (HLQ.out.trans (Later.rfl' _).drew)).mono ?_; rintro r w4 ⟨⟨x40, x41, x42, x43, C41, x44, x47, C42, x45, x48, C43, x46, x49, rfl, hx⟩, hb4⟩; have HX := Lib.hid hx; clear hx) | (go_at_call 15; refine (HEQ.out _ _ _ _ _ (HS.out _ (HLS.out.trans ((Later.rfl' _).drew.trans hb4))) (HX.out _ hb4)).mono ?_; rintro r w5 ⟨rfl, hb5⟩))
        have T := Lib.hid ((Later.rfl' _).drew.trans (hb4.trans hb5))
        have hv := BV.later T.out
        have hs := BS.later T.out
        replace HLQ := Lib.hid (HLQ.out.trans T.out); replace HLS := Lib.hid (HLS.out.trans T.out); replace HLW := Lib.hid (HLW.out.trans T.out); replace HAT := Lib.hid (HAT.out.later T.out)
        clear v0 s0 v1 s1 v2 s2 v3 s3 v4 s4 v5 s5 v6 s6 vz sz HX hb4 hb5 BV BS T
        have hkl := HSK.out HDK.out HKY.out.1
        obtain ⟨k', n', s', t', l, cl, r, hd⟩ := Vl.shape d
        have hdl : d.list = l := by rw [hd]; rfl
        rw [hdl] at hkl
        have hv7 := HAT.out
        rw [hd] at hv7
        obtain ⟨A1', c1', A2', c2', A3', c3', e7, hb4', ⟨p1, q1⟩, _, _, g1, _, _⟩ := hv7.val
        simp only [List.cons.injEq, Value.slice.injEq, and_true] at e7
        obtain ⟨_, _, _, _, ⟨rfl, rfl, rfl⟩, _, _⟩ := e7
        have HE := Lib.hid g1
        have hk1 : (sumL l 0).kind = 1 := by rw [← hkl]; exact HKY.out.1
        have hn1 : (sumL l 0).n = y1 := by rw [← hkl]; exact HKY.out.2
        have HK1 := Lib.hid hk1; have HN1 := Lib.hid hn1
        have v4 := hv.cell (j := 4) rfl
        have s1 := hs.cell (j := 1) rfl
        have vz := hv.lt
        have sz := hs.lt
        clear hkl hd hdl hv7 hb4' g1 hk1 hn1 hv hs HAT HSK HDK HKY HSU HEQ HS HLS
        go_wp2_with fail
        go_loop [5, 6] (fun tt i => ∃ (j : Nat) (acc : Int), j ≤ l.length ∧ i = .int .i64 (j : Int) ∧ tt = .int .i64 acc ∧ (-1000000000 ≤ acc ∧ acc ≤ 1000000000) ∧ Hid (sumL l 0 = sumL (l.drop j) acc)) (fun _ i => l.length - (intOf i).toNat)
        case atStart => exact ⟨0, 0, Nat.zero_le _, rfl, rfl, by omega, rfl⟩
        case round =>
          obtain ⟨j, acc, hj, rfl, rfl, hac, hsm⟩ := hrel
          by_cases hlt : j < l.length
          · obtain ⟨b, off, y0', y1', y2', y3', B1', n1', d1', B2', n2', d2', B3', n3', d3', rfl, hb, _, hx, e0, e1, e2, e3, e4, e5, e6⟩ := HE.out.valAt hlt
            have hkn := ats_kn hx
            have hst := sumL_kind hlt (by rw [← hsm.out]; exact HK1.out)
            have HNX : Hid (sumL l 0 = sumL (l.drop (j + 1)) (acc + y1')) := by unfold Hid; rw [hsm.out, sumL_one hlt hst.1 hst.2, hkn.2]
            have hq := numV_iff.1 hst.2
            rw [hkn.2] at hq
            have hki : (j : Int) < (l.length : Int) := by omega
            clear hx hkn hst hsm e0 e2 e3 e4 e5 e6
            go_wp2_with fail
            go_round
            case rel => exact ⟨j + 1, acc + y1', by omega, by go_num, rfl, by omega, HNX⟩
            case measure => simp [intOf]; omega
          · have hfin : y1 = acc := by rw [← HN1.out, hsm.out, sumL_end hlt]; rfl
            subst hfin
            clear hsm
            go_wp2_with fail
            go_ret
            exact ⟨by first | rfl | exact ret_bool (by simp), HLW.out⟩
      · have ey : (y0 == 1) = false := by simpa using hy
        have ey' : (y0 != 1) = true := by simpa using hy
        clear hy
        have v0 := BV.cell (j := 0) rfl
        have v1 := BV.cell (j := 1) rfl
        have v2 := BV.cell (j := 2) rfl
        have v3 := BV.cell (j := 3) rfl
        have v4 := BV.cell (j := 4) rfl
        have v5 := BV.cell (j := 5) rfl
        have v6 := BV.cell (j := 6) rfl
        have s0 := BS.cell (j := 0) rfl
        have s1 := BS.cell (j := 1) rfl
        have s2 := BS.cell (j := 2) rfl
        have s3 := BS.cell (j := 3) rfl
        have s4 := BS.cell (j := 4) rfl
        have s5 := BS.cell (j := 5) rfl
        have s6 := BS.cell (j := 6) rfl
        have vz := BV.lt
        have sz := BS.lt
        go_wp2_with fail
        go_region_held3 (fun w' => w'.cell? ⟨w2.heap.size, 0, none⟩ = some (.int .i64 3) ∧ w'.cell? ⟨w2.heap.size, 1, none⟩ = some (.int .i64 z1) ∧ w'.cell? ⟨w2.heap.size, 2, none⟩ = some (.int .i64 z2) ∧ w'.cell? ⟨w2.heap.size, 3, none⟩ = some (.string z3) ∧ w'.cell? ⟨w2.heap.size, 4, none⟩ = some (.slice A1 z4 z7) ∧ w'.cell? ⟨w2.heap.size, 5, none⟩ = some (.slice A2 z5 z8) ∧ w'.cell? ⟨w2.heap.size, 6, none⟩ = some (.slice A3 z6 z9) ∧ w'.cell? ⟨w3.heap.size, 0, none⟩ = some (.int .i64 y0) ∧ w'.cell? ⟨w3.heap.size, 1, none⟩ = some (.int .i64 y1) ∧ w'.cell? ⟨w3.heap.size, 2, none⟩ = some (.int .i64 y2) ∧ w'.cell? ⟨w3.heap.size, 3, none⟩ = some (.string y3) ∧ w'.cell? ⟨w3.heap.size, 4, none⟩ = some (.slice B1 y4 y7) ∧ w'.cell? ⟨w3.heap.size, 5, none⟩ = some (.slice B2 y5 y8) ∧ w'.cell? ⟨w3.heap.size, 6, none⟩ = some (.slice B3 y6 y9))
          (first | exact ⟨v0, v1, v2, v3, v4, v5, v6, s0, s1, s2, s3, s4, s5, s6⟩ | exact ⟨kept_cell hb4 v0, kept_cell hb4 v1, kept_cell hb4 v2, kept_cell hb4 v3, kept_cell hb4 v4, kept_cell hb4 v5, kept_cell hb4 v6, kept_cell hb4 s0, kept_cell hb4 s1, kept_cell hb4 s2, kept_cell hb4 s3, kept_cell hb4 s4, kept_cell hb4 s5, kept_cell hb4 s6⟩ | exact ⟨kept_cell hb5 (kept_cell hb4 v0), kept_cell hb5 (kept_cell hb4 v1), kept_cell hb5 (kept_cell hb4 v2), kept_cell hb5 (kept_cell hb4 v3), kept_cell hb5 (kept_cell hb4 v4), kept_cell hb5 (kept_cell hb4 v5), kept_cell hb5 (kept_cell hb4 v6), kept_cell hb5 (kept_cell hb4 s0), kept_cell hb5 (kept_cell hb4 s1), kept_cell hb5 (kept_cell hb4 s2), kept_cell hb5 (kept_cell hb4 s3), kept_cell hb5 (kept_cell hb4 s4), kept_cell hb5 (kept_cell hb4 s5), kept_cell hb5 (kept_cell hb4 s6)⟩)
          (first | (go_at_call 21; refine (HSU.out _ (HLQ.out.trans (Later.rfl' _).drew)).mono ?_; rintro r w4 ⟨⟨x40, x41, x42, x43, C41, x44, x47, C42, x45, x48, C43, x46, x49, rfl, hx⟩, hb4⟩; have HX := Lib.hid hx; clear hx) | (go_at_call 15; refine (HEQ.out _ _ _ _ _ (HS.out _ (HLS.out.trans ((Later.rfl' _).drew.trans hb4))) (HX.out _ hb4)).mono ?_; rintro r w5 ⟨rfl, hb5⟩))
        have T := Lib.hid ((Later.rfl' _).drew.trans (hb4.trans hb5))
        have hv := BV.later T.out
        have hs := BS.later T.out
        replace HLQ := Lib.hid (HLQ.out.trans T.out); replace HLS := Lib.hid (HLS.out.trans T.out); replace HLW := Lib.hid (HLW.out.trans T.out); replace HAT := Lib.hid (HAT.out.later T.out)
        clear v0 s0 v1 s1 v2 s2 v3 s3 v4 s4 v5 s5 v6 s6 vz sz HX hb4 hb5 BV BS T
        have BV := hv
        have BS := hs
        have v0 := BV.cell (j := 0) rfl
        have v1 := BV.cell (j := 1) rfl
        have v2 := BV.cell (j := 2) rfl
        have v3 := BV.cell (j := 3) rfl
        have v4 := BV.cell (j := 4) rfl
        have v5 := BV.cell (j := 5) rfl
        have v6 := BV.cell (j := 6) rfl
        have s0 := BS.cell (j := 0) rfl
        have s1 := BS.cell (j := 1) rfl
        have s2 := BS.cell (j := 2) rfl
        have s3 := BS.cell (j := 3) rfl
        have s4 := BS.cell (j := 4) rfl
        have s5 := BS.cell (j := 5) rfl
        have s6 := BS.cell (j := 6) rfl
        have vz := BV.lt
        have sz := BS.lt
        clear hv hs
        go_wp2_with fail
        go_region_held3 (fun w' => w'.cell? ⟨w2.heap.size, 0, none⟩ = some (.int .i64 3) ∧ w'.cell? ⟨w2.heap.size, 1, none⟩ = some (.int .i64 z1) ∧ w'.cell? ⟨w2.heap.size, 2, none⟩ = some (.int .i64 z2) ∧ w'.cell? ⟨w2.heap.size, 3, none⟩ = some (.string z3) ∧ w'.cell? ⟨w2.heap.size, 4, none⟩ = some (.slice A1 z4 z7) ∧ w'.cell? ⟨w2.heap.size, 5, none⟩ = some (.slice A2 z5 z8) ∧ w'.cell? ⟨w2.heap.size, 6, none⟩ = some (.slice A3 z6 z9) ∧ w'.cell? ⟨w3.heap.size, 0, none⟩ = some (.int .i64 y0) ∧ w'.cell? ⟨w3.heap.size, 1, none⟩ = some (.int .i64 y1) ∧ w'.cell? ⟨w3.heap.size, 2, none⟩ = some (.int .i64 y2) ∧ w'.cell? ⟨w3.heap.size, 3, none⟩ = some (.string y3) ∧ w'.cell? ⟨w3.heap.size, 4, none⟩ = some (.slice B1 y4 y7) ∧ w'.cell? ⟨w3.heap.size, 5, none⟩ = some (.slice B2 y5 y8) ∧ w'.cell? ⟨w3.heap.size, 6, none⟩ = some (.slice B3 y6 y9))
          (first | exact ⟨v0, v1, v2, v3, v4, v5, v6, s0, s1, s2, s3, s4, s5, s6⟩ | exact ⟨kept_cell hb4 v0, kept_cell hb4 v1, kept_cell hb4 v2, kept_cell hb4 v3, kept_cell hb4 v4, kept_cell hb4 v5, kept_cell hb4 v6, kept_cell hb4 s0, kept_cell hb4 s1, kept_cell hb4 s2, kept_cell hb4 s3, kept_cell hb4 s4, kept_cell hb4 s5, kept_cell hb4 s6⟩ | exact ⟨kept_cell hb5 (kept_cell hb4 v0), kept_cell hb5 (kept_cell hb4 v1), kept_cell hb5 (kept_cell hb4 v2), kept_cell hb5 (kept_cell hb4 v3), kept_cell hb5 (kept_cell hb4 v4), kept_cell hb5 (kept_cell hb4 v5), kept_cell hb5 (kept_cell hb4 v6), kept_cell hb5 (kept_cell hb4 s0), kept_cell hb5 (kept_cell hb4 s1), kept_cell hb5 (kept_cell hb4 s2), kept_cell hb5 (kept_cell hb4 s3), kept_cell hb5 (kept_cell hb4 s4), kept_cell hb5 (kept_cell hb4 s5), kept_cell hb5 (kept_cell hb4 s6)⟩)
          (first | (go_at_call 21; refine (HSU.out _ (HLQ.out.trans (Later.rfl' _).drew)).mono ?_; rintro r w6 ⟨⟨x60, x61, x62, x63, C61, x64, x67, C62, x65, x68, C63, x66, x69, rfl, hx⟩, hb4⟩; have HX := Lib.hid hx; clear hx) | (go_at_call 15; refine (HEQ.out _ _ _ _ _ (HS.out _ (HLS.out.trans ((Later.rfl' _).drew.trans hb4))) (HX.out _ hb4)).mono ?_; rintro r w7 ⟨rfl, hb5⟩))
        go_wp2_with fail
        go_ret
        exact ⟨rfl, HLW.out.trans ((Later.rfl' _).drew.trans (hb4.trans hb5))⟩
    · have ez : (z0 == 3) = false := by simpa using hz
      have ez' : (z0 != 3) = true := by simpa using hz
      clear hz
      have v0 := BV.cell (j := 0) rfl
      have v1 := BV.cell (j := 1) rfl
      have v2 := BV.cell (j := 2) rfl
      have v3 := BV.cell (j := 3) rfl
      have v4 := BV.cell (j := 4) rfl
      have v5 := BV.cell (j := 5) rfl
      have v6 := BV.cell (j := 6) rfl
      have s0 := BS.cell (j := 0) rfl
      have s1 := BS.cell (j := 1) rfl
      have s2 := BS.cell (j := 2) rfl
      have s3 := BS.cell (j := 3) rfl
      have s4 := BS.cell (j := 4) rfl
      have s5 := BS.cell (j := 5) rfl
      have s6 := BS.cell (j := 6) rfl
      have vz := BV.lt
      have sz := BS.lt
      go_wp2_with fail
      refine wp_region_held_drew (S := (fun w' => w'.cell? ⟨w2.heap.size, 0, none⟩ = some (.int .i64 z0) ∧ w'.cell? ⟨w2.heap.size, 1, none⟩ = some (.int .i64 z1) ∧ w'.cell? ⟨w2.heap.size, 2, none⟩ = some (.int .i64 z2) ∧ w'.cell? ⟨w2.heap.size, 3, none⟩ = some (.string z3) ∧ w'.cell? ⟨w2.heap.size, 4, none⟩ = some (.slice A1 z4 z7) ∧ w'.cell? ⟨w2.heap.size, 5, none⟩ = some (.slice A2 z5 z8) ∧ w'.cell? ⟨w2.heap.size, 6, none⟩ = some (.slice A3 z6 z9) ∧ w'.cell? ⟨w3.heap.size, 0, none⟩ = some (.int .i64 y0) ∧ w'.cell? ⟨w3.heap.size, 1, none⟩ = some (.int .i64 y1) ∧ w'.cell? ⟨w3.heap.size, 2, none⟩ = some (.int .i64 y2) ∧ w'.cell? ⟨w3.heap.size, 3, none⟩ = some (.string y3) ∧ w'.cell? ⟨w3.heap.size, 4, none⟩ = some (.slice B1 y4 y7) ∧ w'.cell? ⟨w3.heap.size, 5, none⟩ = some (.slice B2 y5 y8) ∧ w'.cell? ⟨w3.heap.size, 6, none⟩ = some (.slice B3 y6 y9))) (by kernel_rfl) ⟨v0, v1, v2, v3, v4, v5, v6, s0, s1, s2, s3, s4, s5, s6⟩ (fun hHeld1 => ?_)
      refine wpAnyH_take (i := 0) (v := ?_) rfl (by kernel_rfl) (by kernel_rfl) (by kernel_rfl) (fun _ _ _ h => h) (Or.inl ⟨by kernel_rfl, ?_⟩) (by assumption) ?_
      rotate_left
      · intro w hSw
        try dsimp only at hSw
        go_simp
        all_goals with_reducible rfl
      try simp only [Act.put, Array.reduceGetElem, List.setIfInBounds_toArray, List.set_cons_zero, List.set_cons_succ]
      refine wpAnyH_take (i := 1) (v := ?_) rfl (by kernel_rfl) (by kernel_rfl) (by kernel_rfl) (fun _ _ _ h => h) (Or.inl ⟨by kernel_rfl, ?_⟩) (by assumption) ?_
      rotate_left
      · intro w hSw
        try dsimp only at hSw
        go_simp
        all_goals with_reducible rfl
      try simp only [Act.put, Array.reduceGetElem, List.setIfInBounds_toArray, List.set_cons_zero, List.set_cons_succ]
      refine wpAnyH_ready (rs := [2]) (by kernel_rfl) (by simp) ?_
      refine AllReadyH.cons rfl (fun K hK => ?_) AllReadyH.nil
      go_simp
      go_at_call 21
      refine (HSU.out _ (HLQ.out.trans (Later.rfl' _).drew)).mono ?_
      rintro r w4 ⟨⟨x40, x41, x42, x43, C41, x44, x47, C42, x45, x48, C43, x46, x49, rfl, hx⟩, hb4⟩
      have HX := Lib.hid hx
      clear hx
      refine hK.out _ _ ⟨kept_cell hb4 v0, kept_cell hb4 v1, kept_cell hb4 v2, kept_cell hb4 v3, kept_cell hb4 v4, kept_cell hb4 v5, kept_cell hb4 v6, kept_cell hb4 s0, kept_cell hb4 s1, kept_cell hb4 s2, kept_cell hb4 s3, kept_cell hb4 s4, kept_cell hb4 s5, kept_cell hb4 s6⟩ (fun hHeld2 => ?_)
      clear hK K hHeld1
      try simp only [Act.put, Array.reduceGetElem, List.setIfInBounds_toArray, List.set_cons_zero, List.set_cons_succ]
      refine wpAnyH_ready (rs := [3]) (by kernel_rfl) (by simp) ?_
      refine AllReadyH.cons rfl (fun K hK => ?_) AllReadyH.nil
      go_simp
      go_at_call 15
      refine (HEQ.out _ _ _ _ _ (HS.out _ (HLS.out.trans ((Later.rfl' _).drew.trans hb4))) (HX.out _ hb4)).mono ?_
      rintro r w5 ⟨rfl, hb5⟩
      refine hK.out _ _ ⟨kept_cell hb5 (kept_cell hb4 v0), kept_cell hb5 (kept_cell hb4 v1), kept_cell hb5 (kept_cell hb4 v2), kept_cell hb5 (kept_cell hb4 v3), kept_cell hb5 (kept_cell hb4 v4), kept_cell hb5 (kept_cell hb4 v5), kept_cell hb5 (kept_cell hb4 v6), kept_cell hb5 (kept_cell hb4 s0), kept_cell hb5 (kept_cell hb4 s1), kept_cell hb5 (kept_cell hb4 s2), kept_cell hb5 (kept_cell hb4 s3), kept_cell hb5 (kept_cell hb4 s4), kept_cell hb5 (kept_cell hb4 s5), kept_cell hb5 (kept_cell hb4 s6)⟩ (fun hHeld3 => ?_)
      clear hK K hHeld2
      try simp only [Act.put, Array.reduceGetElem, List.setIfInBounds_toArray, List.set_cons_zero, List.set_cons_succ]
      refine wpAnyH_take (i := 4) (v := ?_) rfl (by kernel_rfl) (by kernel_rfl) (by kernel_rfl) (fun _ _ _ h => h) (Or.inl ⟨by kernel_rfl, ?_⟩) (by assumption) ?_
      rotate_left
      · intro w hSw
        try dsimp only at hSw
        go_simp
        all_goals with_reducible rfl
      try simp only [Act.put, Array.reduceGetElem, List.setIfInBounds_toArray, List.set_cons_zero, List.set_cons_succ]
      refine wpAnyH_take (i := 5) (v := ?_) rfl (by kernel_rfl) (by kernel_rfl) (by kernel_rfl) (fun _ _ _ h => h) (Or.inl ⟨by kernel_rfl, ?_⟩) (by assumption) ?_
      rotate_left
      · intro w hSw
        try dsimp only at hSw
        go_simp
        all_goals with_reducible rfl
      try simp only [Act.put, Array.reduceGetElem, List.setIfInBounds_toArray, List.set_cons_zero, List.set_cons_succ]
      refine wpAnyH_take (i := 6) (v := ?_) rfl (by kernel_rfl) (by kernel_rfl) (by kernel_rfl) (fun _ _ _ h => h) (Or.inl ⟨by kernel_rfl, ?_⟩) (by assumption) ?_
      rotate_left
      · intro w hSw
        try dsimp only at hSw
        go_simp
        all_goals with_reducible rfl
      try simp only [Act.put, Array.reduceGetElem, List.setIfInBounds_toArray, List.set_cons_zero, List.set_cons_succ]
      refine wpAnyH_take (i := 7) (v := ?_) rfl (by kernel_rfl) (by kernel_rfl) (by kernel_rfl) (fun _ _ _ h => h) (Or.inl ⟨by kernel_rfl, ?_⟩) (by assumption) ?_
      rotate_left
      · intro w hSw
        try dsimp only at hSw
        go_simp
        all_goals with_reducible rfl
      try simp only [Act.put, Array.reduceGetElem, List.setIfInBounds_toArray, List.set_cons_zero, List.set_cons_succ]
      refine wpAnyH_take (i := 8) (v := ?_) rfl (by kernel_rfl) (by kernel_rfl) (by kernel_rfl) (fun _ _ _ h => h) (Or.inl ⟨by kernel_rfl, ?_⟩) (by assumption) ?_
      rotate_left
      · intro w hSw
        try dsimp only at hSw
        go_simp
        all_goals with_reducible rfl
      try simp only [Act.put, Array.reduceGetElem, List.setIfInBounds_toArray, List.set_cons_zero, List.set_cons_succ]
      refine wpAnyH_take (i := 9) (v := ?_) rfl (by kernel_rfl) (by kernel_rfl) (by kernel_rfl) (fun _ _ _ h => h) (Or.inl ⟨by kernel_rfl, ?_⟩) (by assumption) ?_
      rotate_left
      · intro w hSw
        try dsimp only at hSw
        go_simp
        all_goals with_reducible rfl
      try simp only [Act.put, Array.reduceGetElem, List.setIfInBounds_toArray, List.set_cons_zero, List.set_cons_succ]
      refine wpAnyH_take (i := 10) (v := ?_) rfl (by kernel_rfl) (by kernel_rfl) (by kernel_rfl) (fun _ _ _ h => h) (Or.inl ⟨by kernel_rfl, ?_⟩) (by assumption) ?_
      rotate_left
      · intro w hSw
        try dsimp only at hSw
        go_simp
        all_goals with_reducible rfl
      try simp only [Act.put, Array.reduceGetElem, List.setIfInBounds_toArray, List.set_cons_zero, List.set_cons_succ]
      refine wpAnyH_take (i := 11) (v := ?_) rfl (by kernel_rfl) (by kernel_rfl) (by kernel_rfl) (fun _ _ _ h => h) (Or.inr ⟨by kernel_rfl, ?_⟩) (by assumption) ?_
      rotate_left
      · rfl
      try simp only [Act.put, Array.reduceGetElem, List.setIfInBounds_toArray, List.set_cons_zero, List.set_cons_succ]
      refine wpAnyH_take (i := 12) (v := ?_) rfl (by kernel_rfl) (by kernel_rfl) (by kernel_rfl) (fun _ _ _ h => h) (Or.inr ⟨by kernel_rfl, ?_⟩) (by assumption) ?_
      rotate_left
      · rfl
      try simp only [Act.put, Array.reduceGetElem, List.setIfInBounds_toArray, List.set_cons_zero, List.set_cons_succ]
      refine wpAnyH_take (i := 13) (v := ?_) rfl (by kernel_rfl) (by kernel_rfl) (by kernel_rfl) (fun _ _ _ h => h) (Or.inr ⟨by kernel_rfl, ?_⟩) (by assumption) ?_
      rotate_left
      · rfl
      try simp only [Act.put, Array.reduceGetElem, List.setIfInBounds_toArray, List.set_cons_zero, List.set_cons_succ]
      refine wpAnyH_take (i := 14) (v := ?_) rfl (by kernel_rfl) (by kernel_rfl) (by kernel_rfl) (fun _ _ _ h => h) (Or.inl ⟨by kernel_rfl, ?_⟩) (by assumption) ?_
      rotate_left
      · intro w hSw
        try dsimp only at hSw
        go_simp
        all_goals with_reducible rfl
      try simp only [Act.put, Array.reduceGetElem, List.setIfInBounds_toArray, List.set_cons_zero, List.set_cons_succ]
      refine wpAnyH_done (by kernel_rfl) ?_ _
      clear hHeld3
      have T := Lib.hid ((Later.rfl' _).drew.trans (hb4.trans hb5))
      have hv := BV.later T.out
      have hs := BS.later T.out
      replace HLQ := Lib.hid (HLQ.out.trans T.out); replace HLS := Lib.hid (HLS.out.trans T.out); replace HLW := Lib.hid (HLW.out.trans T.out); replace HAT := Lib.hid (HAT.out.later T.out)
      clear v0 s0 v1 s1 v2 s2 v3 s3 v4 s4 v5 s5 v6 s6 vz sz HX hb4 hb5 BV BS T
      have BV := hv
      have BS := hs
      have v0 := BV.cell (j := 0) rfl
      have v1 := BV.cell (j := 1) rfl
      have v2 := BV.cell (j := 2) rfl
      have v3 := BV.cell (j := 3) rfl
      have v4 := BV.cell (j := 4) rfl
      have v5 := BV.cell (j := 5) rfl
      have v6 := BV.cell (j := 6) rfl
      have s0 := BS.cell (j := 0) rfl
      have s1 := BS.cell (j := 1) rfl
      have s2 := BS.cell (j := 2) rfl
      have s3 := BS.cell (j := 3) rfl
      have s4 := BS.cell (j := 4) rfl
      have s5 := BS.cell (j := 5) rfl
      have s6 := BS.cell (j := 6) rfl
      have vz := BV.lt
      have sz := BS.lt
      clear hv hs
      go_wp2_with fail
      go_region_held3 (fun w' => w'.cell? ⟨w2.heap.size, 0, none⟩ = some (.int .i64 z0) ∧ w'.cell? ⟨w2.heap.size, 1, none⟩ = some (.int .i64 z1) ∧ w'.cell? ⟨w2.heap.size, 2, none⟩ = some (.int .i64 z2) ∧ w'.cell? ⟨w2.heap.size, 3, none⟩ = some (.string z3) ∧ w'.cell? ⟨w2.heap.size, 4, none⟩ = some (.slice A1 z4 z7) ∧ w'.cell? ⟨w2.heap.size, 5, none⟩ = some (.slice A2 z5 z8) ∧ w'.cell? ⟨w2.heap.size, 6, none⟩ = some (.slice A3 z6 z9) ∧ w'.cell? ⟨w3.heap.size, 0, none⟩ = some (.int .i64 y0) ∧ w'.cell? ⟨w3.heap.size, 1, none⟩ = some (.int .i64 y1) ∧ w'.cell? ⟨w3.heap.size, 2, none⟩ = some (.int .i64 y2) ∧ w'.cell? ⟨w3.heap.size, 3, none⟩ = some (.string y3) ∧ w'.cell? ⟨w3.heap.size, 4, none⟩ = some (.slice B1 y4 y7) ∧ w'.cell? ⟨w3.heap.size, 5, none⟩ = some (.slice B2 y5 y8) ∧ w'.cell? ⟨w3.heap.size, 6, none⟩ = some (.slice B3 y6 y9))
        (first | exact ⟨v0, v1, v2, v3, v4, v5, v6, s0, s1, s2, s3, s4, s5, s6⟩ | exact ⟨kept_cell hb4 v0, kept_cell hb4 v1, kept_cell hb4 v2, kept_cell hb4 v3, kept_cell hb4 v4, kept_cell hb4 v5, kept_cell hb4 v6, kept_cell hb4 s0, kept_cell hb4 s1, kept_cell hb4 s2, kept_cell hb4 s3, kept_cell hb4 s4, kept_cell hb4 s5, kept_cell hb4 s6⟩ | exact ⟨kept_cell hb5 (kept_cell hb4 v0), kept_cell hb5 (kept_cell hb4 v1), kept_cell hb5 (kept_cell hb4 v2), kept_cell hb5 (kept_cell hb4 v3), kept_cell hb5 (kept_cell hb4 v4), kept_cell hb5 (kept_cell hb4 v5), kept_cell hb5 (kept_cell hb4 v6), kept_cell hb5 (kept_cell hb4 s0), kept_cell hb5 (kept_cell hb4 s1), kept_cell hb5 (kept_cell hb4 s2), kept_cell hb5 (kept_cell hb4 s3), kept_cell hb5 (kept_cell hb4 s4), kept_cell hb5 (kept_cell hb4 s5), kept_cell hb5 (kept_cell hb4 s6)⟩)
        (first | (go_at_call 21; refine (HSU.out _ (HLQ.out.trans (Later.rfl' _).drew)).mono ?_; rintro r w6 ⟨⟨x60, x61, x62, x63, C61, x64, x67, C62, x65, x68, C63, x66, x69, rfl, hx⟩, hb4⟩; have HX := Lib.hid hx; clear hx) | (go_at_call 15; refine (HEQ.out _ _ _ _ _ (HS.out _ (HLS.out.trans ((Later.rfl' _).drew.trans hb4))) (HX.out _ hb4)).mono ?_; rintro r w7 ⟨rfl, hb5⟩))
      go_wp2_with fail
      go_ret
      exact ⟨rfl, HLW.out.trans ((Later.rfl' _).drew.trans (hb4.trans hb5))⟩

end Go.Proofs.Ytghemlokpfipoaa
